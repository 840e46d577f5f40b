/- The codec: numerals, walked. -/
import Derived.Test.YthbibbkbaphpkaaGreatDoorMab
import Derived.Deep.RegionLawGrows
import Derived.Deep.AppendLies
import Derived.Deep.RegionHeld3
import Derived.Lib.AppendStr
import Derived.Laws.EntriesVeiled
import Derived.WalkMore
import Derived.RangeFuncFrom
import Derived.RangeFuncBox
import Derived.RangeFuncLeaves
import Derived.Shelf.Abstract
import Derived.OwnWalkIn
import Derived.TacticsInMore
import Derived.LoopNIn
import Derived.LoopIn
import Derived.BigFrameIn
set_option maxHeartbeats 16000000
set_option maxRecDepth 1000000
namespace Go.Proofs.YthbibbkbaphpkaaGreatDoor
open _root_.Go.Proofs.Tryz
section
open Go.RowKit
theorem u8_or128 (x:Nat) (h:x<256):bits .or .u8 (x:Int) 128=((x % 128+128:Nat):Int):=by
 have:=u8_or_nat x 128 h (by omega)
 refine this.trans ?_;congr 1;have hd:∀ x:Fin 256,x.1 ||| 128=x.1 % 128+128:=by decide +kernel
 exact hd ⟨x,h⟩
def App (base:Nat) (v:Value) (n:Nat) (xs:List Value) (new:List Nat) (w:World) (r:Ending) (w':World):Prop :=
 ∃ v',r = .returned v'∧w'.ownsRow base 5 1 v' (n+new.length) (xs++ag new)∧Grew w w' v v'
theorem qY (base:Nat) (v:Value) (n:Nat) (xs:List Value) (u:Nat) (W:World) (hown:W.ownsRow base 5 1 v n xs) (hbase:base≤W.heap.size) (hu:u<18446744073709551616) (hn:n≤70368744177000) :
  Calls prog 248 #[v,.int .u64 u] W (App base v n xs (iV u) W):=by
 go_enter func248,ntmps248;go_wp2_with fail;go_loopw [0,1] (fun b s wr=>∃ (k y:Nat) (done:List Nat),s = .int .u64 y∧wr.ownsRow base 5 1 b (n+done.length) (xs++ag done)∧Grew W wr v b∧base≤wr.heap.size∧done.length≤10∧y<18446744073709551616∧Hid (done++qA k y=iV u∧y<128 ^ (k+1)∧done.length+k=10)) (fun _ s _=>(intOf s).toNat)
 case atStart=>exact ⟨10,u,[],rfl,by simpa [ag] using hown,Grew.refl _ _,hbase,by simp,hu,⟨rfl,aaS hu (by decide),rfl⟩⟩
 case round =>
  clear hown hbase hu;obtain ⟨k,y,done,rfl,hown,hgr,hbase,hdl,hy,hk⟩:=hrel;by_cases hlt:128≤y
  ·obtain ⟨k,rfl⟩:∃ k',k=k'+1:=by
    rcases k with _ | k
    ·have:=hk.out.2.1;simp at this;omega
    ·exact ⟨k,rfl⟩
   have hor:Hid (bits BinOp.or IntKind.u8 ((y:Int) % 256) 128=((y % 128+128:Nat):Int)):=by
    have h:=u8_or128 (y % 256) (aaC _ (by decide));rw [Nat.mod_mod_of_dvd y (by decide)] at h;show _=_;rw [←h];simp
   have hone:∀ q∈[Value.int .u8 (bits BinOp.or IntKind.u8 ((y:Int) % 256) 128)],q.oneCell'=true:=(by intro q hq;simp at hq;subst hq;rfl);have h63:n+done.length+1≤maxLen:=(by unfold maxLen;omega);have hby:(n+done.length+1)*1≤140737488355328:=(by omega);have hdl9:done.length+1≤10:=by have:=hk.out.2.2;omega
   have hnx:Hid ((done++[y % 128+128])++qA k (y / 128)=iV u∧y / 128<128 ^ (k+1)∧(done++[y % 128+128]).length+k=10):=by
    obtain ⟨h1,h2,h3⟩:=hk.out;refine ⟨?_,?_,by simp;omega⟩
    ·rw [←h1]
     show _=done++(if y<128 then [y] else (y % 128+128)::qA k (y / 128));rw [if_neg (by omega)];simp
    ·rw [abf] at h2;omega
   go_wp2_with (at_builtin;refine aO wr [.int .u8 (bits BinOp.or IntKind.u8 ((y:Int) % 256) 128)] (.tmp 9) (.tmp 13) 83 base 5 (.int .u8 0) 1 1 u0 (n+done.length) (xs++ag done) rfl rfl underlying83 bG rfl (by omega) rfl hown rfl rfl hone h63 hby hbase ?_;intro v' w' hown4 hg4)
   go_roundw
   case rel =>
    rw [hor.out] at hown4;exact ⟨k,y / 128,done++[y % 128+128],by go_num,by simpa [ag,aay] using hown4,hgr.trans hg4,aaj hbase hg4.size,by simp;omega,by omega,hnx⟩
   case measure=>simp [intOf];omega
  ·have hone:∀ q∈[Value.int .u8 (y:Int)],q.oneCell'=true:=by intro q hq;simp at hq;subst hq;rfl
   have h63:n+done.length+1≤maxLen:=(by unfold maxLen;omega);have hby:(n+done.length+1)*1≤140737488355328:=by omega
   have hend:Hid (iV u=done++[y]):=by
    obtain ⟨h1,h2,h3⟩:=hk.out;show _=_;rw [←h1];congr 1;cases k with
    | zero=>show [y % 256]=[y];rw [aaR (by omega)]
    | succ k=>show (if y<128 then [y] else _)=[y];rw [if_pos (by omega)]
   go_wp2_with (at_builtin;refine aO wr [.int .u8 (y:Int)] (.tmp 15) (.tmp 18) 83 base 5 (.int .u8 0) 1 1 u0 (n+done.length) (xs++ag done) rfl rfl underlying83 bG rfl (by omega) rfl hown rfl rfl hone h63 hby hbase ?_;intro v' w' hown4 hg4)
   go_ret;refine ⟨_,rfl,?_,hgr.trans hg4⟩;rw [hend.out];simpa [ag,aay] using hown4
theorem Qy (a:Nat) (h:a<18446744073709551616):a ^^^ 18446744073709551615=18446744073709551615 - a:=by
 have h1:(BitVec.ofNat 64 a ^^^ BitVec.allOnes 64).toNat=(~~~ BitVec.ofNat 64 a).toNat:=by rw [BitVec.xor_allOnes]
 rw [BitVec.toNat_xor,BitVec.toNat_not,BitVec.toNat_allOnes,BitVec.toNat_ofNat,aaR h] at h1;exact h1
theorem Ux (n:Int) (h0:0≤n) (h1:n≤9223372036854775807):bits BinOp.xor IntKind.u64 (n*2) (n / 9223372036854775808)=((mQ n:Nat):Int):=by
 have e1:n / 9223372036854775808=((0:Nat):Int):=by omega
 have e2:n*2=(((2*n).toNat:Nat):Int):=by omega
 rw [e1,e2,u64_xor_nat _ _ (by omega) (by omega),Nat.xor_zero];unfold mQ;rw [if_pos h0]
theorem Uy (n:Int) (h0:n<0) (h1:-9223372036854775808≤n):bits BinOp.xor IntKind.u64 (IntKind.u64.wrap (IntKind.u64.wrap n*2)) (IntKind.u64.wrap (n / 9223372036854775808))=((mQ n:Nat):Int):=by
 have e1:IntKind.u64.wrap (n / 9223372036854775808)=((18446744073709551615:Nat):Int):=by rw [IntKind.wrap_u64];omega
 have e2:IntKind.u64.wrap (IntKind.u64.wrap n*2)=(((18446744073709551616+2*n).toNat:Nat):Int):=by rw [IntKind.wrap_u64,IntKind.wrap_u64];omega
 rw [e1,e2,u64_xor_nat _ _ (by omega) (by omega),Qy _ (by omega)];unfold mQ;rw [if_neg (by omega)];omega
theorem EO (n:Int) (w:World) (h0:-9223372036854775808≤n) (h1:n≤9223372036854775807) :
  Calls prog 249 #[.int .i64 n] w (Same (.int .u64 (mQ n:Nat)) w):=by
 by_cases hn:0≤n
 ·have e:=aab (Ux n hn h1)
  go_enter func249,ntmps249;go_wp2
  rw [e.out];go_ret;exact ⟨rfl,rfl⟩
 ·have e:=aab (Uy n (by omega) h0)
  go_enter func249,ntmps249;go_wp2
  rw [e.out];go_ret;exact ⟨rfl,rfl⟩
def gJ (A:Option Addr) (n c:Nat):Value := .agg #[.int .i64 3,.int .i64 0,.string ⟨#[]⟩,.slice A n c]
theorem yO (x:It) (w:World):Calls prog 246 #[x.agg] w (Ret (.tuple #[.int .i64 0,.bool true]) w):=by
 cases x with
 | int n =>
  show Calls _ _ #[.agg #[.int .i64 1,.int .i64 n,.string ⟨#[]⟩,.slice none 0 0]] w _;go_enter func246,ntmps246;go_wp2_with fail
  all_goals
   go_ret2;exact ⟨rfl,bAl (bAl (aj _) _) _⟩
 | text s =>
  show Calls _ _ #[.agg #[.int .i64 2,.int .i64 0,.string s,.slice none 0 0]] w _;go_enter func246,ntmps246;go_wp2_with fail
  all_goals
   go_ret2;exact ⟨rfl,bAl (bAl (aj _) _) _⟩
theorem Gz (A:Option Addr) (n c:Nat) (l:List It) (W:World) (hA:Rd W W.heap.size 4 A n (l.flatMap It.cells)) (hn:n≤1000000) :
  Calls prog 246 #[gJ A n c] W (Ret (.tuple #[.int .i64 1,.bool true]) W):=by
 have hl:Hid (l.length=n):=by have:=hA.1;rw [lW It.cells_length] at this;show _=_;omega
 unfold gJ;go_enter func246,ntmps246;go_wp2_with fail;go_loopw [2,57] (fun d i wr=>∃ k:Nat,k≤n∧i = .int .i64 k∧d = .int .i64 0∧Below W.heap.size W wr) (fun _ i _=>n - (intOf i).toNat)
 case atStart=>exact ⟨0,aao _,rfl,rfl,bAl (bAl (aj W) _) _⟩
 case round =>
  obtain ⟨k,hk,rfl,rfl,hb⟩:=hrel;by_cases hlt:k<n
  ·obtain ⟨x,hx⟩:∃ x,Hid (l[k]?=some x):=⟨_,aab (aac (by rw [hl.out];exact hlt))⟩
   obtain ⟨b,off,rfl,hbb,hc⟩:=Gy (hA.below hb) hlt hx.out;clear hx;cases x with
   | int m =>
    have c0:=hc 0 _ rfl;have c1:=hc 1 _ rfl;have c2:=hc 2 _ rfl;have c3:=hc 3 _ rfl;rw [aa9] at c0;clear hc;go_wp2_with fail;have q:∀ w',Calls prog 246 #[.agg #[.int .i64 1,.int .i64 m,.string ⟨#[]⟩,.slice none 0 0]] w' (Ret (.tuple #[.int .i64 0,.bool true]) w'):=fun w'=>yO (.int m) w'
    with_reducible refine (q _).mono ?_
    rintro e w2 ⟨rfl,b2⟩;have hb2:=ah (bAl hb _) b2;clear hb b2 q;go_wp2_with fail;go_roundw
    case rel=>exact ⟨k+1,by omega,by go_num,rfl,hb2⟩
    case measure=>simp [intOf];omega
   | text s =>
    have c0:=hc 0 _ rfl;have c1:=hc 1 _ rfl;have c2:=hc 2 _ rfl;have c3:=hc 3 _ rfl;rw [aa9] at c0;clear hc;go_wp2_with fail;have q:∀ w',Calls prog 246 #[.agg #[.int .i64 2,.int .i64 0,.string s,.slice none 0 0]] w' (Ret (.tuple #[.int .i64 0,.bool true]) w'):=fun w'=>yO (.text s) w'
    with_reducible refine (q _).mono ?_
    rintro e w2 ⟨rfl,b2⟩;have hb2:=ah (bAl hb _) b2;clear hb b2 q;go_wp2_with fail;go_roundw
    case rel=>exact ⟨k+1,by omega,by go_num,rfl,hb2⟩
    case measure=>simp [intOf];omega
  ·go_wp2_with fail
   go_ret2;exact ⟨rfl,hb⟩
theorem AA (A:Option Addr) (n c:Nat) (l:List It) (W:World) (hA:Rd W W.heap.size 4 A n (l.flatMap It.cells)) (hn:n≤1000000) :
  Calls prog 195 #[gJ A n c] W (Ret (.int .i64 0) W):=by
 have hA2:=hA.alloc (aad _) (.cells #[.int .i64 3,.int .i64 0,.string ⟨#[]⟩,.slice A n c] 169);have q:=Gz A n c l _ (hA2.more (by simp)) hn;have hb:=bAl (aj W) (.cells #[.int .i64 3,.int .i64 0,.string ⟨#[]⟩,.slice A n c] 169);unfold gJ at q ⊢;go_enter func195,ntmps195;go_wp2_with fail
 with_reducible refine q.mono ?_
 rintro e w2 ⟨rfl,b2⟩;have hb2:=ah hb b2;clear q hb b2;go_wp2_with fail;go_ret;exact ⟨rfl,hb2⟩
theorem iW {P:Program} {ops:Array Oper} {o:Oper} {a:Act} {w:World} {K:Act→World→Prop} {Q:Exit→Act→World→Prop} {E:Prop}
  (hgd:o.guard=none) (s x:Operand) (t:TypeId) (ho:o.op = .call { callee := .builtin .append,args:=#[s,x],argTypes:=#[t,t] })
  (base:Nat) (e:TypeId) (z:Value) (size bytes:Nat) (ht:P.underlying t=some (.slice e)) (hinfo:(P.info? e).map (fun i=>(i.zero,i.size,i.bytes))=some (some z,size,bytes)) (hzs:z.cells.size=size) (hsz:0<size)
  (v:Value) (n:Nat) (xs:List Value) (hs:a.eval s=v) (hown:w.ownsRow base e size v n xs) (g:Nat) (te:TypeId) (m c:Nat) (news:List Value) (hx:a.eval x = .slice (some ⟨g,0,none⟩) m c) (hB:Blk w g te news.toArray) (hl:news.length=m*size) (hm:0<m)
  (h1:∀ u∈news,u.oneCell'=true) (h63:n+m≤maxLen) (hbytes:(n+m)*bytes≤140737488355328) (hbase:base≤w.heap.size)
  (hK:∀ v' w',w'.ownsRow base e size v' (n+m) (xs++news)→Grew w w' v v'→K (a.put o.dst v') w') :
  if Region.wanted o (yielded ops a.tmps)=true then Oper.wp P o a w K Q else E:=by
 obtain ⟨i0,hi,hz0,hz1,hz2⟩:=info_parts hinfo;refine step_append_lies w hgd s x t ho base e i0 z size bytes ht hi hz0 hz1 hz2 hzs hsz v n xs hs hown ⟨g,0,none⟩ m c news hx hl ?_ h1 hm h63 hbytes hbase _ rfl ?_
 ·intro j u hu
  rw [dX,aax,hB.cell j];simpa using hu
 ·intro g' cap w' hown' hgrow hat _
  refine hK _ w' hown' ⟨hgrow,?_⟩;rcases hat with h | h
  ·exact .inl h.symm
  ·exact .inr ⟨g',rfl,by omega⟩
theorem zB {P:Program} (w:World) (base:Nat) (t u ty e:TypeId) (i:TypeInfo) (ht:P.underlying t=some (.slice e)) (hu:P.underlying u=some .string) (hi:P.info? e=some i) (hz:i.zero=some (.int .u8 0))
  (hsize:i.size=1) (hby:i.bytes=1) (v:Value) (n:Nat) (xs:List Value) (hown:w.ownsRow base e 1 v n xs) (s:ByteArray) (h63:n+s.size≤maxLen) (hbytes:n+s.size≤140737488355328) (hbase:base≤w.heap.size) :
  ∃ v' w',(Builtin.append_ #[t,u] ty #[v,.string s]).run P w = .ok v' w'∧w'.ownsRow base e 1 v' (n+s.size) (xs++Lib.strCells s)∧Grew w w' v v':=by
 obtain ⟨v',w',hr,h2,h3,h4⟩:=Lib.run_append_own_string w base t u ty e i ht hu hi hz hsize hby v n xs hown s h63 hbytes hbase;refine ⟨v',w',hr,h2,h3,?_⟩;have hsm:n+s.size≤9223372036854775807:=by simp only [maxLen] at h63;omega
 have hxl:xs.length=n:=by simpa using hown.1
 rcases hown.2 with ⟨hv,hn⟩ | ⟨g,cap,cur,hv,hbg,hg,hnc,hcm,hcs,htake⟩
 ·subst hv;subst hn
  by_cases hm:s.size=0
  ·have:=h4.2 ⟨rfl,hm⟩
   rw [this];exact .inl rfl
  ·have hr2:=run_append_nil_string (P:=P) w t u ty e i (.int .u8 0) ht hu hi hz s (by omega) (by omega) (by rw [hby];omega)
   rw [hr] at hr2;injection hr2 with e1 e2
   rw [e1];exact .inr ⟨_,rfl,aad _⟩
 ·subst hv
  by_cases hroom:n+s.size≤cap
  ·have hr2:=Lib.run_append_room_string (P:=P) w t u ty e i ht hu hi hsize g n cap cur hg s hroom (by omega)
   rw [hr] at hr2;injection hr2 with e1 e2
   rw [e1];exact .inl rfl
  ·have holds:∀ j u,xs[j]?=some u→w.cell? ((⟨g,0,none⟩:Addr).add j)=some u:=hown.cells (g:=g) rfl
   have hr2:=Lib.run_append_grow_string (P:=P) w t u ty e i (.int .u8 0) ht hu hi hz ⟨g,0,none⟩ n cap xs (by rw [hsize];simpa using hxl) holds s (by omega) (by omega) (by rw [hby];exact growslice_fits (by omega) (by omega));rw [hr] at hr2;injection hr2 with e1 e2
   rw [e1];exact .inr ⟨_,rfl,aad _⟩
theorem qO {P:Program} {ops:Array Oper} {o:Oper} {a:Act} {w:World} {K:Act→World→Prop} {Q:Exit→Act→World→Prop} {E:Prop}
  (hgd:o.guard=none) (sl x:Operand) (t u:TypeId) (ho:o.op = .call { callee := .builtin .append,args:=#[sl,x],argTypes:=#[t,u] })
  (base:Nat) (e:TypeId) (ht:P.underlying t=some (.slice e)) (hu:P.underlying u=some .string) (hinfo:(P.info? e).map (fun i=>(i.zero,i.size,i.bytes))=some (some (.int .u8 0),1,1))
  (v:Value) (n:Nat) (xs:List Value) (hs:a.eval sl=v) (hown:w.ownsRow base e 1 v n xs) (s:ByteArray) (hx:a.eval x = .string s)
  (h63:n+s.size≤maxLen) (hbytes:n+s.size≤140737488355328) (hbase:base≤w.heap.size)
  (hK:∀ v' w',w'.ownsRow base e 1 v' (n+s.size) (xs++Lib.strCells s)→Grew w w' v v'→K (a.put o.dst v') w') :
  if Region.wanted o (yielded ops a.tmps)=true then Oper.wp P o a w K Q else E:=by
 obtain ⟨i0,hi,hz0,hz1,hz2⟩:=info_parts hinfo;have hw:Region.wanted o (yielded ops a.tmps)=true:=by simp [Region.wanted,hgd]
 rw [if_pos hw];obtain ⟨v',w',hr,h2,h3⟩:=zB (P:=P) w base t u o.type e i0 ht hu hi hz0 hz1 hz2 v n xs hown s h63 hbytes hbase;unfold Oper.wp execOp;simp only [ho,resolve,invoke,builtin,Sem.run_bind,Sem.run_pure,Result.andThen_ok,List.map_toArray,aat,aak,hs,hx,hr];exact hK _ _ h2 h3
theorem own_base {w:World} {base b0:Nat} {e:TypeId} {sz n:Nat} {v:Value} {xs:List Value} (h:w.ownsRow base e sz v n xs) (hb:b0≤base):w.ownsRow b0 e sz v n xs:=by
 obtain ⟨h1,h2⟩:=h;refine ⟨h1,?_⟩;rcases h2 with h2 | ⟨g,cap,cur,r0,r1,r2⟩
 ·exact .inl h2
 ·exact .inr ⟨g,cap,cur,r0,aaj hb r1,r2⟩
def WrB (w:World) (b:Nat):Prop :=
 Blk w b 280 #[.nilFunc,.func (.func 247) #[] #[],.func (.func 250) #[] #[],.func (.func 251) #[] #[.pointer (some ⟨b+1,0,none⟩)]]∧Blk w (b+1) 245 #[.pointer (some ⟨b,0,none⟩)]
theorem WrB.list {w:World} {b:Nat} (h:WrB w b):w.cell? ⟨b,3,none⟩=some (.func (.func 251) #[] #[.pointer (some ⟨b+1,0,none⟩)]):=h.1.cell 3
theorem dY {w:World} {b:Nat} {t:TypeId} {x0 x1 x2 x3:Value} (h:Blk w b t #[x0,x1,x2,x3]):w.cell? ⟨b,0,none⟩=some x0∧w.cell? ⟨b,1,none⟩=some x1∧w.cell? ⟨b,2,none⟩=some x2∧w.cell? ⟨b,3,none⟩=some x3:=⟨h.cell 0,h.cell 1,h.cell 2,h.cell 3⟩
theorem AB (W:World):Calls prog 196 #[] W (fun r w'=>r = .returned (.pointer (some ⟨W.heap.size,0,none⟩))∧Below W.heap.size W w'∧WrB w' W.heap.size):=by
 have hmf:∀ (fn:Fn) (first cap:Array Value) (w:World),(Instr.makeFunc fn first cap).run prog w = .ok (.func fn first cap) w:=fun _ _ _ _=>rfl;go_enter func196,ntmps196;go_wp2_with fail;go_ret;exact ⟨rfl,bAl (bAl (aj _) _) _,(Blk.new _ _ _ _ rfl).alloc _,Blk.new _ _ _ _ (by simp)⟩
theorem Oz (base:Nat) (v:Value) (n:Nat) (xs:List Value) (m:Int) (W:World) (hown:W.ownsRow base 5 1 v n xs) (hbase:base≤W.heap.size) (hm:(It.int m).ok) (hn:n≤70368744170000) :
  Calls prog 247 #[v,.agg #[.int .i64 1,.int .i64 m,.string ⟨#[]⟩,.slice none 0 0]] W (App base v n xs (It.int m).enc W):=by
 go_enter func247,ntmps247;have BX:=Blk.new W 169 #[.int .i64 1,.int .i64 m,.string ⟨#[]⟩,.slice none 0 0] _ rfl;have hown1:=hown.alloc (.cells #[.int .i64 1,.int .i64 m,.string ⟨#[]⟩,.slice none 0 0] 169);have hb1:=bAl (aj W) (.cells #[.int .i64 1,.int .i64 m,.string ⟨#[]⟩,.slice none 0 0] 169);have hone:∀ q∈[Value.int .u8 1],q.oneCell'=true:=by intro q hq;simp at hq;subst hq;rfl
 have h63:n+1≤maxLen:=by unfold maxLen;omega
 have hby:(n+1)*1≤140737488355328:=by omega
 obtain ⟨m0,m1⟩:=hm;have hun:=MH m0 m1;have hbW1:=aaj hbase hb1.size;go_wp2_with fail;generalize W.alloc (.cells #[.int .i64 1,.int .i64 m,.string ⟨#[]⟩,.slice none 0 0] 169)=w1 at *;have c1:w1.cell? ⟨W.heap.size,1,none⟩=some (.int .i64 m):=BX.cell 1
 go_region_held3 (fun w'=>w'.cell? ⟨W.heap.size,1,none⟩=some (.int .i64 m))
  (first | exact BX6.cell 1 | exact BX5.cell 1 | exact BX.cell 1 | exact (BX.below (by repeat (first | exact aj _ | refine bAl ?_ _ | refine bDr ?_)) BX.lt).cell 1)
  (first
  | (refine iW rfl (.tmp 5) (.tmp 6) 83 rfl base 5 (.int .u8 0) 1 1 underlying83 bG (by rfl) (by omega) v n xs (by rfl) (by first | exact hown1.drew.alloc _ | exact (hown1.alloc _).drew | exact hown1.alloc _) _ 5 1 1 [.int .u8 1] (by rfl) (by first | exact Blk.new _ _ _ _ rfl | exact Blk.new _ _ _ _ (by simp)) (by rfl) (by omega) hone h63 hby (by simp <;> omega) ?_
     intro v5 w5 hown5 hg5;have BX5:Blk w5 W.heap.size 169 #[.int .i64 1,.int .i64 m,.string ⟨#[]⟩,.slice none 0 0]:=hg5.blk (by first | exact hown1.drew.alloc _ | exact (hown1.alloc _).drew | exact hown1.alloc _) (BX.below (by repeat (first | exact aj _ | refine bAl ?_ _ | refine bDr ?_)) BX.lt) (by decide))
  | (go_simp;go_at_call 249;refine (EO m _ m0 m1).mono ?_;rintro e w' ⟨rfl,rfl⟩)
  | (go_simp;go_at_call 248;refine (qY base v5 (n+1) _ (mQ m) w5 hown5 (aaj (by simp <;> omega) hg5.size) hun (by omega)).mono ?_;rintro e w6 ⟨v6,rfl,hown6,hg6⟩;have BX6:=hg6.blk hown5 BX5 (by decide)))
 go_wp2_with fail;go_ret;refine ⟨_,rfl,?_,Grew.pre (bDr (bAl hb1 _)) (hg5.trans hg6)⟩;simpa [It.enc,ag,aay,Nat.add_comm 1] using hown6
theorem uq (s:ByteArray):Lib.strCells s=ag (sb s):=by
 unfold Lib.strCells ag sb;simp
theorem JD (base:Nat) (v:Value) (n:Nat) (xs:List Value) (s:ByteArray) (W:World) (hown:W.ownsRow base 5 1 v n xs) (hbase:base≤W.heap.size) (hm:(It.text s).ok) (hn:n≤70368744100000) :
  Calls prog 250 #[v,.agg #[.int .i64 2,.int .i64 0,.string s,.slice none 0 0]] W (App base v n xs (It.text s).enc W):=by
 go_enter func250,ntmps250;have BX:=Blk.new W 169 #[.int .i64 2,.int .i64 0,.string s,.slice none 0 0] _ rfl;have hown1:=hown.alloc (.cells #[.int .i64 2,.int .i64 0,.string s,.slice none 0 0] 169);have hb1:=bAl (aj W) (.cells #[.int .i64 2,.int .i64 0,.string s,.slice none 0 0] 169);have hone:∀ q∈[Value.int .u8 2],q.oneCell'=true:=by intro q hq;simp at hq;subst hq;rfl
 have h63:n+1≤maxLen:=by unfold maxLen;omega
 have hby:(n+1)*1≤140737488355328:=by omega
 have hm':s.size≤1000000:=hm;have hnl:=(fP 10 s.size).2;have hbW1:=aaj hbase hb1.size;go_wp2_with fail;generalize W.alloc (.cells #[.int .i64 2,.int .i64 0,.string s,.slice none 0 0] 169)=w1 at *;have c1:w1.cell? ⟨W.heap.size,2,none⟩=some (.string s):=BX.cell 2;have hL:Hid ((iV s.size).length≤11):=hnl;clear hm hnl;have hW:Hid (IntKind.u64.wrap (s.size:Int)=(s.size:Int)):=by show _=_;rw [IntKind.wrap_u64];omega
 go_region_held3 (fun w'=>w'.cell? ⟨W.heap.size,2,none⟩=some (.string s))
  (first | exact BX7.cell 2 | exact BX6.cell 2 | exact BX5.cell 2 | exact BX.cell 2 | exact (BX.below (by repeat (first | exact aj _ | refine bAl ?_ _ | refine bDr ?_)) BX.lt).cell 2)
  (first
  | (refine iW rfl (.tmp 5) (.tmp 6) 83 rfl base 5 (.int .u8 0) 1 1 underlying83 bG (by rfl) (by omega) v n xs (by rfl) (by first | exact hown1.drew.alloc _ | exact (hown1.alloc _).drew | exact hown1.alloc _) _ 5 1 1 [.int .u8 2] (by rfl) (by first | exact Blk.new _ _ _ _ rfl | exact Blk.new _ _ _ _ (by simp)) (by rfl) (by omega) hone h63 hby (by simp <;> omega) ?_
     intro v5 w5 hown5 hg5;have BX5:Blk w5 W.heap.size 169 #[.int .i64 2,.int .i64 0,.string s,.slice none 0 0]:=hg5.blk (by first | exact hown1.drew.alloc _ | exact (hown1.alloc _).drew | exact hown1.alloc _) (BX.below (by repeat (first | exact aj _ | refine bAl ?_ _ | refine bDr ?_)) BX.lt) (by decide))
  | (refine qO rfl (.tmp 12) (.tmp 14) 83 9 rfl base 5 underlying83 underlying9 bG v6 (n + 1 + (iV s.size).length) _ (by rfl) hown6 s (by rfl) (by have := hL.out; unfold maxLen; omega) (by have := hL.out; omega) (aaj (by simp <;> omega) (hg5.trans hg6).size) ?_
     intro v7 w7 hown7 hg7;have BX7:=hg7.blk hown6 BX6 (by decide))
  | (go_simp;go_at_call 248;rw [hW.out];(with_reducible refine (qY base v5 (n+1) _ s.size w5 hown5 (aaj (by simp <;> omega) hg5.size) (by omega) (by omega)).mono ?_);rintro e w6 ⟨v6,rfl,hown6,hg6⟩;have BX6:=hg6.blk hown5 BX5 (by decide)))
 all_goals
  go_wp2_with fail;go_ret;refine ⟨_,rfl,?_,Grew.pre (bDr (bAl hb1 _)) ((hg5.trans hg6).trans hg7)⟩;rw [uq] at hown7;simpa [It.enc,ag,uN,aay,Nat.add_comm 1] using hown7
def It.fn:It→Nat
 | .int _=>247
 | .text _=>250
theorem AC (A:Option Addr) (n c bw:Nat) (l:List It) (W:World) (hA:Rd W W.heap.size 4 A n (l.flatMap It.cells)) (hw:WrB W bw) (hok:∀ x∈l,x.ok) (hn:n≤1000) :
  Calls prog 251 #[.slice none 0 0,gJ A n c,.pointer (some ⟨bw+1,0,none⟩)] W (fun r w'=>∃ v',r = .returned v'∧w'.ownsRow W.heap.size 5 1 v' (bZ l).length (ag (bZ l))∧Below W.heap.size W w'):=by
 obtain rfl:l.length=n:=by have:=hA.1;rw [lW It.cells_length] at this;omega
 unfold gJ;go_enter func251,ntmps251;go_wp2_with fail;have BX:=Blk.new W 169 #[.int .i64 3,.int .i64 0,.string ⟨#[]⟩,.slice A l.length c] _ rfl;have hb1:=bAl (aj W) (.cells #[.int .i64 3,.int .i64 0,.string ⟨#[]⟩,.slice A l.length c] 169);have hone:∀ q∈[Value.int .u8 3],q.oneCell'=true:=by intro q hq;simp at hq;subst hq;rfl
 have hWU:Hid (IntKind.u64.wrap (l.length:Int)=(l.length:Int)):=by show _=_;rw [IntKind.wrap_u64];omega
 have hnil:∀ w:World,w.ownsRow W.heap.size 5 1 (.slice none 0 0) 0 []:=fun w=>World.ownsRow_nil _ _ _ _;generalize W.alloc (.cells #[.int .i64 3,.int .i64 0,.string ⟨#[]⟩,.slice A l.length c] 169)=w1 at *;have c1:w1.cell? ⟨W.heap.size,3,none⟩=some (.slice A l.length c):=BX.cell 3;have hb1s:=hb1.size;go_cut [0] (fun s0 wc=>∃ v,s0=v∧wc.ownsRow W.heap.size 5 1 v (1+(iV l.length).length) (ag (3::iV l.length))∧Below W.heap.size W wc∧Blk wc W.heap.size 169 #[.int .i64 3,.int .i64 0,.string ⟨#[]⟩,.slice A l.length c])
 case first =>
  go_region_held3 (fun w'=>w'.cell? ⟨W.heap.size,3,none⟩=some (.slice A l.length c))
   (first | exact BX6.cell 3 | exact BX5.cell 3 | exact BX.cell 3 | exact (BX.below (by repeat (first | exact aj _ | refine bAl ?_ _ | refine bDr ?_)) BX.lt).cell 3)
   (first
   | (refine iW rfl (.tmp 8) (.tmp 9) 83 rfl W.heap.size 5 (.int .u8 0) 1 1 underlying83 bG (by rfl) (by omega) (.slice none 0 0) 0 [] (by rfl) (hnil _) _ 5 1 1 [.int .u8 3] (by rfl) (by first | exact Blk.new _ _ _ _ rfl | exact Blk.new _ _ _ _ (by simp)) (by rfl) (by omega) hone (by unfold maxLen; omega) (by omega) (by simp <;> omega) ?_
      intro v5 w5 hown5 hg5;have BX5:Blk w5 W.heap.size 169 #[.int .i64 3,.int .i64 0,.string ⟨#[]⟩,.slice A l.length c]:=hg5.blk (hnil _) (BX.below (by repeat (first | exact aj _ | refine bAl ?_ _ | refine bDr ?_)) BX.lt) (by decide))
   | (go_simp;go_at_call 248;rw [hWU.out];(with_reducible refine (qY W.heap.size v5 (0+1) _ l.length w5 hown5 (aaj (by simp <;> omega) hg5.size) (by omega) (by omega)).mono ?_);rintro e w6 ⟨v6,rfl,hown6,hg6⟩;have BX6:=hg6.blk hown5 BX5 (by decide)))
  all_goals
   go_wp2_with fail;go_meet;refine ⟨_,rfl,by simpa [ag] using hown6,?_,BX6⟩;exact ((bDr (bAl hb1 _)).trans (hg5.below (hnil _) (by simp <;> omega))).trans (hg6.below hown5 (aaj (by simp <;> omega) hg5.size))
 case rest =>
  obtain ⟨v,rfl,hown,hb,BX2⟩:=hcut;have c2:wc.cell? ⟨W.heap.size,3,none⟩=some (.slice A l.length c):=BX2.cell 3;go_wp2_with fail;go_loopw [0,19] (fun v i wr=>∃ k:Nat,k≤l.length∧i = .int .i64 k∧wr.ownsRow W.heap.size 5 1 v (1+(iV l.length).length+(jA (l.take k)).length) (ag (3::iV l.length++jA (l.take k)))∧Below W.heap.size W wr) (fun _ i _=>l.length - (intOf i).toNat)
  case atStart=>exact ⟨0,aao _,rfl,by simpa [jA] using hown,hb⟩
  case round =>
   clear hown hb BX2 c2;obtain ⟨k,hk,rfl,hown,hb⟩:=hrel;by_cases hlt:k<l.length
   ·obtain ⟨x,hx⟩:∃ x,Hid (l[k]?=some x):=⟨_,aab (aac hlt)⟩
    obtain ⟨b,off,rfl,hbb,hc⟩:=Gy (hA.below hb) hlt hx.out;have hxo:=hok x (aam hx.out)
    have hsn:Hid (jA (l.take (k+1))=jA (l.take k)++x.enc):=by
     obtain ⟨hk,rfl⟩:=aag.1 hx.out;show _=_;rw [aaB hk,DR]
    have hle:Hid (1+(iV l.length).length+(jA (l.take k)).length≤70368744100000):=by
     have h1:=(fP 10 l.length).2;have h2:=vT (l:=l.take k) (fun y hy=>hok y (abv hy));rw [aav] at h2;have h3:min k l.length*1000012≤1000*1000012:=Nat.mul_le_mul_right _ (by omega);show _≤_;unfold iV;omega
    have hwr:WrB wr bw:=⟨hw.1.below hb hw.1.lt,hw.2.below hb hw.2.lt⟩
    clear hx;cases x with
    | int m =>
     have c0:=hc 0 _ rfl;have c1:=hc 1 _ rfl;have c2:=hc 2 _ rfl;have c3:=hc 3 _ rfl;rw [aa9] at c0;clear hc;go_upto_region 5 with fail;have BX:=Blk.new wr 169 #[.int .i64 1,.int .i64 m,.string ⟨#[]⟩,.slice none 0 0] _ rfl;have hown1:=hown.alloc (.cells #[.int .i64 1,.int .i64 m,.string ⟨#[]⟩,.slice none 0 0] 169);have hb1:=bAl hb (.cells #[.int .i64 1,.int .i64 m,.string ⟨#[]⟩,.slice none 0 0] 169);have hwr1:WrB (wr.alloc (.cells #[.int .i64 1,.int .i64 m,.string ⟨#[]⟩,.slice none 0 0] 169)) bw:=⟨hwr.1.alloc _,hwr.2.alloc _⟩
     clear c0 c1 c2 c3 hown hb hwr;generalize wr.alloc (.cells #[.int .i64 1,.int .i64 m,.string ⟨#[]⟩,.slice none 0 0] 169)=w1 at *;have d0:w1.cell? ⟨wr.heap.size,0,none⟩=some (.int .i64 1):=BX.cell 0;have d1:w1.cell? ⟨wr.heap.size,1,none⟩=some (.int .i64 m):=BX.cell 1;have d2:w1.cell? ⟨wr.heap.size,2,none⟩=some (.string ⟨#[]⟩):=BX.cell 2;have d3:w1.cell? ⟨wr.heap.size,3,none⟩=some (.slice none 0 0):=BX.cell 3;have e0:w1.cell? ⟨bw+1,0,none⟩=some (.pointer (some ⟨bw,0,none⟩)):=hwr1.2.cell 0;have e1:w1.cell? ⟨bw,1,none⟩=some (.func (.func 247) #[] #[]):=hwr1.1.cell 1;refine jC 9 (by kernel_rfl) (by kernel_rfl) ?_;simp only [abq,abj,abx,aa3]
     repeat (go_big_quiet_step (fail))
     refine wpQuiet_nil ?_;go_wp2_with fail;have hbs:=hb1.size
     (with_reducible refine (Oz W.heap.size u0 _ _ m w1.drew hown1.drew (by simp <;> omega) hxo (by have:=hle.out;omega)).mono ?_)
     rintro e w2 ⟨v2,rfl,hown2,hg2⟩;have hb2:=(bDr hb1).trans (hg2.below hown1.drew (by simp <;> omega));clear d0 d1 d2 d3 e0 e1 hb1 hwr1;go_wp2_with fail;go_roundw
     case rel=>exact ⟨k+1,by omega,by go_num,by rw [hsn.out,aan];simpa [ag,aay] using hown2,hb2⟩
     case measure=>simp [intOf];omega
    | text s =>
     have c0:=hc 0 _ rfl;have c1:=hc 1 _ rfl;have c2:=hc 2 _ rfl;have c3:=hc 3 _ rfl;rw [aa9] at c0;clear hc;go_upto_region 5 with fail;have BX:=Blk.new wr 169 #[.int .i64 2,.int .i64 0,.string s,.slice none 0 0] _ rfl;have hown1:=hown.alloc (.cells #[.int .i64 2,.int .i64 0,.string s,.slice none 0 0] 169);have hb1:=bAl hb (.cells #[.int .i64 2,.int .i64 0,.string s,.slice none 0 0] 169);have hwr1:WrB (wr.alloc (.cells #[.int .i64 2,.int .i64 0,.string s,.slice none 0 0] 169)) bw:=⟨hwr.1.alloc _,hwr.2.alloc _⟩
     clear c0 c1 c2 c3 hown hb hwr;generalize wr.alloc (.cells #[.int .i64 2,.int .i64 0,.string s,.slice none 0 0] 169)=w1 at *;have d0:w1.cell? ⟨wr.heap.size,0,none⟩=some (.int .i64 2):=BX.cell 0;have d1:w1.cell? ⟨wr.heap.size,1,none⟩=some (.int .i64 0):=BX.cell 1;have d2:w1.cell? ⟨wr.heap.size,2,none⟩=some (.string s):=BX.cell 2;have d3:w1.cell? ⟨wr.heap.size,3,none⟩=some (.slice none 0 0):=BX.cell 3;have e0:w1.cell? ⟨bw+1,0,none⟩=some (.pointer (some ⟨bw,0,none⟩)):=hwr1.2.cell 0;have e1:w1.cell? ⟨bw,2,none⟩=some (.func (.func 250) #[] #[]):=hwr1.1.cell 2;refine jC 9 (by kernel_rfl) (by kernel_rfl) ?_;simp only [abq,abj,abx,aa3]
     repeat (go_big_quiet_step (fail))
     refine wpQuiet_nil ?_;go_wp2_with fail;have hbs:=hb1.size
     (with_reducible refine (JD W.heap.size u0 _ _ s w1.drew hown1.drew (by simp <;> omega) hxo (by have:=hle.out;omega)).mono ?_)
     rintro e w2 ⟨v2,rfl,hown2,hg2⟩;have hb2:=(bDr hb1).trans (hg2.below hown1.drew (by simp <;> omega));clear d0 d1 d2 d3 e0 e1 hb1 hwr1;go_wp2_with fail;go_roundw
     case rel=>exact ⟨k+1,by omega,by go_num,by rw [hsn.out,aan];simpa [ag,aay] using hown2,hb2⟩
     case measure=>simp [intOf];omega
   ·have hkn:Hid (jA (l.take k)=jA l):=by show _=_;rw [aaH (by omega)]
    rw [hkn.out] at hown;go_wp2_with fail;go_ret;refine ⟨_,rfl,?_,hb⟩;have e:(bZ l).length=1+(iV l.length).length+(jA l).length:=(by unfold bZ;simp;omega);rw [e];exact hown
theorem lX (A:Option Addr) (n c:Nat) (l:List It) (W:World) (hA:Rd W W.heap.size 4 A n (l.flatMap It.cells)) (hok:∀ x∈l,x.ok) (hn:n≤1000) :
  Calls prog 118 #[gJ A n c] W (fun r w'=>∃ v,r = .returned (.tuple #[v,.int .i64 0])∧Below W.heap.size W w'∧Sl w' w'.heap.size 1 v (bZ l).length (ag (bZ l))):=by
 have BX:=Blk.new W 169 #[.int .i64 3,.int .i64 0,.string ⟨#[]⟩,.slice A n c] _ rfl;have hb1:=bAl (aj W) (.cells #[.int .i64 3,.int .i64 0,.string ⟨#[]⟩,.slice A n c] 169);have q:=AA A n c l _ ((hA.alloc (aad _) (.cells #[.int .i64 3,.int .i64 0,.string ⟨#[]⟩,.slice A n c] 169)).more (by simp)) (by omega);unfold gJ at q ⊢;go_enter func118,ntmps118;go_wp2_with fail
 with_reducible refine q.mono ?_
 rintro e w2 ⟨rfl,b2⟩;have hb2:=ah hb1 b2;have BX2:=BX.below b2 BX.lt;clear q hb1 b2 BX;go_wp2_with fail;have d0:w2.cell? ⟨W.heap.size,0,none⟩=some (.int .i64 3):=BX2.cell 0;have d1:w2.cell? ⟨W.heap.size,1,none⟩=some (.int .i64 0):=BX2.cell 1;have d2:w2.cell? ⟨W.heap.size,2,none⟩=some (.string ⟨#[]⟩):=BX2.cell 2;have d3:w2.cell? ⟨W.heap.size,3,none⟩=some (.slice A n c):=BX2.cell 3;have hlt:=BX2.lt;go_cut [2,3] (fun s2 s3 wc=>∃ v,s2=v∧s3 = .int .i64 0∧Below W.heap.size W wc∧Sl wc wc.heap.size 1 v (bZ l).length (ag (bZ l)))
 case first =>
  go_region_with (first
   | (go_at_call 196;refine (AB _).mono ?_;rintro e w3 ⟨rfl,b3,hw3⟩;have BX3:=BX2.below ((bDr (aj w2)).trans b3) hlt;obtain ⟨f0,f1,f2,f3⟩:=dY BX3;have hw4:WrB w3 w2.heap.size:=hw3;have g3:=hw4.list;have hb3:=(bDr hb2).trans (b3.mono hb2.size);clear b3)
   | (go_at_call 251;refine (AC A n c _ l _ ((hA.below hb3).more hb3.size) hw4 hok hn).mono ?_;rintro e w4 ⟨v,rfl,hown4,b4⟩;have hb4:=ah hb3 b4))
  all_goals
   go_wp2_with fail;go_meet;exact ⟨_,rfl,rfl,hb4,Sl.of_own hown4⟩
 case rest =>
  obtain ⟨v,rfl,rfl,hb,hv⟩:=hcut;go_wp2_with fail;go_ret2;exact ⟨_,rfl,hb,hv⟩
end
def pF (op:Nat→Nat→Nat) (e:Nat) (f:Nat→Nat):Nat→Nat
 | 0=>e
 | n+1=>op (pF op e f n) (f n)
def fH (f:Nat→Nat) (n:Nat):Nat:=pF (fun a b=>a+b) 0 f n
def jQ (f:Nat→Nat) (n:Nat):Nat:=pF (fun a b=>a*b) 1 f n
theorem XQ (f:Nat→Nat):fH f 0=0:=rfl
theorem lF (f:Nat→Nat) (n:Nat):fH f (n+1)=fH f n+f n:=rfl
theorem lG (f:Nat→Nat) (n:Nat):jQ f (n+1)=jQ f n*f n:=rfl
theorem lY {op:Nat→Nat→Nat} {e:Nat} {f g:Nat→Nat} : ∀ n,(∀ i,i<n→f i=g i)→pF op e f n=pF op e g n
 | 0,_=>rfl
 | n+1,h=>by
  show op _ _=op _ _;rw [lY n (fun i hi=>h i (by omega)),h n (by omega)]
theorem jE {f g:Nat→Nat} (n:Nat) (h:∀ i,i<n→f i=g i):fH f n=fH g n:=lY n h
theorem GG {f g:Nat→Nat} (n:Nat) (h:∀ i,i<n→f i=g i):jQ f n=jQ g n:=lY n h
section
variable {op:Nat→Nat→Nat} {e:Nat} (hc:∀ a b,op a b=op b a) (ha:∀ a b c,op (op a b) c=op a (op b c))
include hc ha
theorem vU (f:Nat→Nat) (s x:Nat):∀ n,s<n→op (pF op e (fun i=>if i=s then x else f i) n) (f s)=op (pF op e f n) x
 | 0,h=>absurd h (by omega)
 | n+1,h=>by
  show op (op _ (if n=s then x else f n)) (f s)=op (op _ (f n)) x;by_cases hn:n=s
  ·subst hn
   rw [if_pos rfl,lY (g:=f) n (fun i hi=>if_neg (by omega)),ha,ha,hc x]
  ·rw [if_neg hn,ha,hc (f n),←ha,vU f s x n (by omega),ha,ha,hc x]
theorem uO:∀ (n:Nat) (f σ:Nat→Nat),(∀ i,i<n→σ i<n)→(∀ i j,i<n→j<n→σ i=σ j→i=j)→pF op e (fun i=>f (σ i)) n=pF op e f n
 | 0,_,_,_,_=>rfl
 | n+1,f,σ,hlt,hinj=>by
  have key:∀ τ:Nat→Nat,(∀ v,τ (τ v)=v)→(∀ v,v<n+1→τ v<n+1)→τ (σ n)=n→pF op e (fun i=>f (τ i)) (n+1)=pF op e f (n+1)→pF op e (fun i=>f (σ i)) (n+1)=pF op e f (n+1):=by
   intro τ h1 h2 h3 h4;have hτ:∀ u v,τ u=τ v→u=v:=fun u v h=>by rw [←h1 u,h,h1 v]
   have ih:=uO n (fun v=>f (τ v)) (fun i=>τ (σ i))
    (fun i hi => by
     have a:=h2 _ (hlt i (by omega))
     have b:τ (σ i)≠n:=fun e=>by
      have:=hinj i n (by omega) (by omega) (hτ _ _ (e.trans h3.symm))
      omega
     show τ (σ i)<n;omega)
    (fun i j hi hj h=>hinj i j (by omega) (by omega) (hτ _ _ h))
   simp only [h1] at ih;rw [←h4];have e5:τ n=σ n:=(by have:=h1 (σ n);rw [h3] at this;exact this);show op _ (f (σ n))=op _ (f (τ n));rw [ih,e5]
  by_cases hs:σ n=n
  ·exact key id (fun _=>rfl) (fun _ h=>h) hs rfl
  ·have hsn:σ n<n:=by have:=hlt n (by omega);omega
   refine key (fun v=>if v=σ n then n else if v=n then σ n else v) ?_ ?_ (if_pos rfl) ?_
   ·intro v
    show (if (if v=σ n then n else if v=n then σ n else v)=σ n then n else if (if v=σ n then n else if v=n then σ n else v)=n then σ n else (if v=σ n then n else if v=n then σ n else v))=v;by_cases h1:v=σ n
    ·rw [if_pos h1,if_neg (by omega),if_pos rfl,h1]
    ·rw [if_neg h1]
     by_cases h2:v=n
     ·rw [if_pos h2,if_pos rfl,h2]
     ·rw [if_neg h2,if_neg h1,if_neg h2]
   ·intro v hv
    show (if v=σ n then n else if v=n then σ n else v)<n+1
    split
    ·omega
    ·split <;> omega
   ·show op _ (f (if n=σ n then n else if n=n then σ n else n))=op _ (f n)
    rw [if_neg (by omega),if_pos rfl,←vU hc ha f (σ n) (f n) n hsn];congr 1;refine lY n fun i hi=>?_;by_cases h1:i=σ n
    ·rw [if_pos h1,if_pos h1]
    ·rw [if_neg h1,if_neg h1,if_neg (by omega)]
end
theorem OA (n:Nat) (f σ:Nat→Nat) (h1:∀ i,i<n→σ i<n) (h2:∀ i j,i<n→j<n→σ i=σ j→i=j):fH (fun i=>f (σ i)) n=fH f n :=
 uO Nat.add_comm aay n f σ h1 h2
theorem JE (n:Nat) (f σ:Nat→Nat) (h1:∀ i,i<n→σ i<n) (h2:∀ i j,i<n→j<n→σ i=σ j→i=j):jQ (fun i=>f (σ i)) n=jQ f n :=
 uO abg Nat.mul_assoc n f σ h1 h2
theorem nK (f g:Nat→Nat):∀ n,fH (fun i=>f i+g i) n=fH f n+fH g n
 | 0=>rfl
 | n+1=>by simp only [lF,nK f g n];omega
theorem nM (c:Nat):∀ n,fH (fun _=>c) n=n*c
 | 0=>by simp [XQ]
 | n+1=>by simp only [lF,nM c n,abh]
theorem DT (f:Nat→Nat→Nat) (m:Nat):∀ n,fH (fun i=>fH (fun j=>f i j) m) n=fH (fun j=>fH (fun i=>f i j) n) m
 | 0=>by
  show 0=fH (fun _=>0) m;rw [nM];simp
 | n+1=>by simp only [lF,DT f m n,nK]
theorem pG {f g:Nat→Nat} : ∀ n,(∀ i,i<n→f i % 2=g i % 2)→fH f n % 2=fH g n % 2
 | 0,_=>rfl
 | n+1,h=>by
  have a:=pG n (fun i hi=>h i (by omega));have b:=h n (by omega);simp only [lF];omega
theorem xP (f g:Nat→Nat):∀ n,jQ (fun i=>f i*g i) n=jQ f n*jQ g n
 | 0=>rfl
 | n+1=>by simp only [lG,xP f g n];simp only [Nat.mul_assoc,Nat.mul_left_comm,abg]
theorem DU {f g:Nat→Nat} (p:Nat):∀ n,(∀ i,i<n→f i % p=g i % p)→jQ f n % p=jQ g n % p
 | 0,_=>rfl
 | n+1,h=>by
  rw [lG,lG,Nat.mul_mod,DU p n (fun i hi=>h i (by omega)),h n (by omega),←Nat.mul_mod]
theorem yP (a:Nat):∀ n,jQ (fun _=>a) n=a ^ n
 | 0=>rfl
 | n+1=>by rw [lG,yP a n,abf]
def gU (h a i:Nat):Nat:=(a * (i+1)) % (2*h+1)
def vV (h r:Nat):Nat:=if h<r then 1 else 0
def qZ (h r:Nat):Nat:=if h<r then 2*h+1 - r else r
def gy (h a:Nat):Nat:=fH (fun i=>vV h (gU h a i)) h
theorem xQ (h a i:Nat):gU h a i<2*h+1:=aaC _ (by omega)
theorem vW {h a i:Nat} (hc:Nat.Coprime (2*h+1) a) (hi:i<h):0<gU h a i:=by
 rcases aa7 (gU h a i) with h0 | h0
 ·have hd:2*h+1 ∣ a * (i+1):=aby h0
  have:=Nat.le_of_dvd (by omega) (hc.dvd_of_dvd_mul_left hd)
  omega
 ·exact h0
theorem Uz {h r:Nat} (h0:0<r) (h1:r<2*h+1):0<qZ h r∧qZ h r≤h:=by
 unfold qZ;split <;> omega
def AO (h a i:Nat):Nat:=qZ h (gU h a i) - 1
theorem tH {h a i:Nat} (hc:Nat.Coprime (2*h+1) a) (hi:i<h):AO h a i<h∧AO h a i+1=qZ h (gU h a i):=by
 have:=Uz (vW hc hi) (xQ h a i)
 unfold AO;omega
theorem GH {h a i j:Nat} (hc:Nat.Coprime (2*h+1) a) (hi:i<h) (hj:j<h) (he:AO h a i=AO h a j):i=j:=by
 have e1:=(tH hc hi).2;have e2:=(tH hc hj).2;rw [he,e2] at e1;have l1:=xQ h a i;have l2:=xQ h a j;have p1:=vW hc hi;have p2:=vW hc hj
 have hcase:gU h a i=gU h a j∨gU h a i+gU h a j=2*h+1:=by
  unfold qZ at e1;split at e1 <;> split at e1 <;> omega
 have aux:∀ u v:Nat,u<h→v<h→v≤u→gU h a u=gU h a v→u=v:=by
  intro u v hu hv huv e;have h1:=Nat.sub_mod_eq_zero_of_mod_eq e;rw [←Nat.mul_sub] at h1;have h2:=hc.dvd_of_dvd_mul_left (aby h1);rcases aa7 (u+1 - (v+1)) with h3 | h3
  ·omega
  ·have:=Nat.le_of_dvd h3 h2
   omega
 rcases hcase with e | e
 ·rcases Nat.le_total j i with hl | hl
  ·exact aux i j hi hj hl e
  ·exact (aux j i hj hi hl e.symm).symm
 ·exfalso
  have h1:(a * (i+1)+a * (j+1)) % (2*h+1)=0:=by
   rw [Nat.add_mod];show (gU h a i+gU h a j) % _=0;rw [e,Nat.mod_self]
  rw [←Nat.mul_add] at h1;have h2:=Nat.le_of_dvd (by omega) (hc.dvd_of_dvd_mul_left (aby h1));omega
theorem GI {h a:Nat} (hc:Nat.Coprime (2*h+1) a) (f:Nat→Nat):fH (fun i=>f (qZ h (gU h a i))) h=fH (fun i=>f (i+1)) h:=by
 rw [←OA h (fun v=>f (v+1)) (AO h a) (fun i hi=>(tH hc hi).1) (fun i j hi hj=>GH hc hi hj)];exact jE h fun i hi=>by rw [(tH hc hi).2]
theorem OB {h a:Nat} (hc:Nat.Coprime (2*h+1) a) (f:Nat→Nat):jQ (fun i=>f (qZ h (gU h a i))) h=jQ (fun i=>f (i+1)) h:=by
 rw [←JE h (fun v=>f (v+1)) (AO h a) (fun i hi=>(tH hc hi).1) (fun i j hi hj=>GH hc hi hj)];exact GG h fun i hi=>by rw [(tH hc hi).2]
theorem OD (h a:Nat):gy h (a % (2*h+1))=gy h a:=by
 refine jE h fun i _=>?_;unfold gU;rw [Nat.mod_mul_mod]
theorem OE (h:Nat):gy h 1=0:=by
 have:gy h 1=fH (fun _=>0) h:=jE h fun i hi=>by
  unfold vV gU;rw [Nat.one_mul,aaR (by omega),if_neg (by omega)]
 rw [this,nM];simp
theorem OG {h a b:Nat} (ha:Nat.Coprime (2*h+1) a) (hb:Nat.Coprime (2*h+1) b):gy h (a*b) % 2=(gy h a+gy h b) % 2:=by
 have e1:gy h a=fH (fun i=>vV h ((a*qZ h (gU h b i)) % (2*h+1))) h:=(GI hb (fun v=>vV h ((a*v) % (2*h+1)))).symm;rw [e1];unfold gy;rw [←nK];refine pG h fun i hi=>?_;have p1:=vW hb hi;have l1:=xQ h b i
 have e2:gU h (a*b) i=(a*gU h b i) % (2*h+1):=by
  unfold gU;rw [Nat.mul_mod_mod,Nat.mul_assoc]
 rw [e2];by_cases hf:h<gU h b i
 ·have e3:qZ h (gU h b i)=2*h+1 - gU h b i:=if_pos hf
  have e4:vV h (gU h b i)=1:=if_pos hf;rw [e3,e4];generalize gU h b i=r at *
  have hs:0<(a*r) % (2*h+1):=by
   rcases aa7 ((a*r) % (2*h+1)) with h0 | h0
   ·have:=Nat.le_of_dvd p1 (ha.dvd_of_dvd_mul_left (aby h0))
    omega
   ·exact h0
  have hs2:(a*r) % (2*h+1)<2*h+1:=aaC _ (by omega)
  have ht:((a*r) % (2*h+1)+(a * (2*h+1 - r)) % (2*h+1)) % (2*h+1)=0:=by
   rw [←Nat.add_mod,←Nat.mul_add,Nat.add_sub_cancel' (by omega),Nat.mul_mod_left]
  have ht2:(a * (2*h+1 - r)) % (2*h+1)<2*h+1:=aaC _ (by omega);generalize (a*r) % (2*h+1)=s at *;generalize (a * (2*h+1 - r)) % (2*h+1)=t at *
  have hst:s+t=2*h+1:=by
   have:=Nat.le_of_dvd (by omega) (aby ht)
   rcases aa0 (s+t) (2 * (2*h+1)) with h1 | h1
   ·have h2:=Nat.mod_eq_sub_mod (a:=s+t) (b:=2*h+1) this
    rw [ht,aaR (by omega)] at h2;omega
   ·omega
  unfold vV
  split <;> split <;> omega
 ·have e3:qZ h (gU h b i)=gU h b i:=if_neg hf
  have e4:vV h (gU h b i)=0:=if_neg hf;rw [e3,e4];rfl
theorem OH (h:Nat):gy h 2=h - h / 2:=by
 have e1:gy h 2=fH (fun i=>if h / 2≤i then 1 else 0) h:=jE h fun i hi=>by
  unfold vV gU;rw [aaR (by omega)];by_cases hh:h / 2≤i
  ·rw [if_pos hh,if_pos (by omega)]
  ·rw [if_neg hh,if_neg (by omega)]
 have e2:∀ c n,fH (fun i=>if c≤i then 1 else 0) n=n - c:=by
  intro c n;induction n with
  | zero=>simp [XQ]
  | succ n ih =>
   rw [lF,ih]
   split <;> omega
 rw [e1,e2]
theorem yQ {h a:Nat} (ha:Nat.Coprime (2*h+1) a) (ho:a % 2=1):gy h a % 2=fH (fun i=>a * (i+1) / (2*h+1)) h % 2:=by
 have h1:fH (fun i=>a * (i+1)) h % 2=(fH (fun i=>a * (i+1) / (2*h+1)) h+fH (fun i=>gU h a i) h) % 2:=by
  rw [←nK];refine pG h fun i _=>?_
  have:=Nat.div_add_mod (a * (i+1)) (2*h+1)
  unfold gU;generalize a * (i+1) / (2*h+1)=q at *;generalize a * (i+1) % (2*h+1)=r at *;rw [←this,Nat.add_mod,Nat.mul_mod,show (2*h+1) % 2=1 by omega];omega
 have h2:fH (fun i=>gU h a i) h % 2=(fH (fun i=>qZ h (gU h a i)) h+gy h a) % 2:=by
  unfold gy;rw [←nK];refine pG h fun i _=>?_
  have:=xQ h a i
  unfold qZ vV
  split <;> omega
 have h3:fH (fun i=>qZ h (gU h a i)) h=fH (fun i=>i+1) h:=GI ha (fun v=>v);have h4:fH (fun i=>a * (i+1)) h % 2=fH (fun i=>i+1) h % 2:=pG h fun i _=>by rw [Nat.mul_mod,ho];omega
 omega
theorem yR (m c g:Nat) (hm:0<m) (hc:c / m≤g):c / m=fH (fun j=>if m * (j+1)≤c then 1 else 0) g:=by
 have:∀ g,fH (fun j=>if m * (j+1)≤c then 1 else 0) g=min g (c / m):=by
  intro g;induction g with
  | zero=>simp [XQ]
  | succ n ih =>
   rw [lF,ih]
   have:=Nat.le_div_iff_mul_le (x:=n+1) (y:=c) hm
   rw [abg] at this
   split
   ·rename_i h;have:=this.2 h;omega
   ·rename_i h
    have:¬n+1≤c / m:=fun h'=>h (this.1 h')
    omega
 rw [this];omega
theorem GK (h g k:Nat) (hk:k<h):(2*g+1) * (k+1) / (2*h+1)≤g:=by
 apply Nat.le_of_lt_succ;rw [Nat.div_lt_iff_lt_mul (by omega)]
 have:(2*g+1) * (k+1)≤(2*g+1)*h:=Nat.mul_le_mul_left _ (by omega)
 have e:(g+1) * (2*h+1)=(2*g+1)*h+(h+g+1):=by
  simp only [Nat.add_mul,Nat.mul_add,aaA,Nat.one_mul,Nat.mul_assoc,Nat.mul_left_comm];omega
 show _<(g+1) * (2*h+1);omega
theorem UA {h g:Nat} (hc:Nat.Coprime (2*h+1) (2*g+1)) :
  fH (fun k=>(2*g+1) * (k+1) / (2*h+1)) h+fH (fun j=>(2*h+1) * (j+1) / (2*g+1)) g=h*g:=by
 have e1:fH (fun k=>(2*g+1) * (k+1) / (2*h+1)) h=fH (fun k=>fH (fun j=>if (2*h+1) * (j+1)≤(2*g+1) * (k+1) then 1 else 0) g) h :=
  jE h fun k hk=>yR _ _ _ (by omega) (GK h g k hk)
 have e2:fH (fun j=>(2*h+1) * (j+1) / (2*g+1)) g=fH (fun k=>fH (fun j=>if (2*g+1) * (k+1)≤(2*h+1) * (j+1) then 1 else 0) g) h:=by
  rw [DT];exact jE g fun j hj=>yR _ _ _ (by omega) (GK g h j hj)
 rw [e1,e2,←nK]
 have e3:fH (fun k=>fH (fun j=>if (2*h+1) * (j+1)≤(2*g+1) * (k+1) then 1 else 0) g+fH (fun j=>if (2*g+1) * (k+1)≤(2*h+1) * (j+1) then 1 else 0) g) h=fH (fun _=>g) h:=by
  refine jE h fun k hk=>?_;rw [←nK];have e4:fH (fun _=>1) g=g:=by rw [nM];omega
  refine Eq.trans (jE (g:=fun _=>1) g fun j hj=>?_) e4
  have hne:(2*h+1) * (j+1)≠(2*g+1) * (k+1):=by
   intro e;have hd:2*h+1 ∣ (2*g+1) * (k+1):=⟨j+1,e.symm⟩
   have:=Nat.le_of_dvd (by omega) (hc.dvd_of_dvd_mul_left hd)
   omega
  split <;> split <;> omega
 rw [e3,nM]
theorem GL {h g:Nat} (hc:Nat.Coprime (2*h+1) (2*g+1)):(gy h (2*g+1)+gy g (2*h+1)) % 2=(h*g) % 2:=by
 have h1:=yQ (h:=h) (a:=2*g+1) hc (by omega);have h2:=yQ (h:=g) (a:=2*h+1) hc.symm (by omega);have h3:=UA hc;omega
def GM (p:Nat):Nat→Nat→Bool
 | 0,_=>true
 | k+1,d=>(p % d != 0)&&GM p k (d+1)
theorem xR (p:Nat):∀ k d,GM p k d=true→∀ e,d≤e→e<d+k→¬e ∣ p
 | 0,d,_,e,h1,h2=>by omega
 | k+1,d,h,e,h1,h2=>by
  simp only [GM,aal,bne_iff_ne,ne_eq] at h;rcases aa0 d e with h3 | h3
  ·exact xR p k (d+1) h.2 e (by omega) (by omega)
  ·have:e=d:=by omega
   subst this;exact fun hd=>h.1 (Nat.mod_eq_zero_of_dvd hd)
theorem Qz {p k:Nat} (h:GM p k 2=true) (hk:p<(k+2) * (k+2)) {a:Nat} (h0:0<a) (h1:a<p):Nat.Coprime p a:=by
 have hd:=Nat.gcd_dvd_left p a;have hle:=Nat.le_of_dvd h0 (Nat.gcd_dvd_right p a)
 have hno:∀ e,1<e→e<p→¬e ∣ p:=by
  intro e h2 h3 h4;rcases aa0 e (k+2) with h5 | h5
  ·exact xR p k 2 h e (by omega) (by omega) h4
  ·obtain ⟨f,hf⟩:=h4
   have hf1:1<f:=by
    rcases aa0 1 f with h6 | h6
    ·exact h6
    ·have:f=0∨f=1:=by omega
     rcases this with rfl | rfl <;> simp at hf <;> omega
   have hf2:f<k+2:=by
    rcases aa0 f (k+2) with h6 | h6
    ·exact h6
    ·have:=Nat.mul_le_mul h5 h6
     omega
   exact xR p k 2 h f (by omega) (by omega) ⟨e,by rw [hf,abg]⟩
 show Nat.gcd p a=1;have hg:0<Nat.gcd p a:=Nat.gcd_pos_of_pos_right _ h0;rcases aa0 1 (Nat.gcd p a) with h6 | h6
 ·exact absurd hd (hno _ h6 (by omega))
 ·omega
theorem JF {p x y f:Nat} (hc:Nat.Coprime p f) (h:(x*f) % p=(y*f) % p):x % p=y % p:=by
 have aux:∀ x y:Nat,y≤x→(x*f) % p=(y*f) % p→x % p=y % p:=by
  intro x y hl h;have h1:=Nat.sub_mod_eq_zero_of_mod_eq h;rw [←Nat.sub_mul] at h1;obtain ⟨q,hq⟩:=hc.dvd_of_dvd_mul_right (aby h1)
  have:x=y+p*q:=by omega
  rw [this,Nat.add_mul_mod_self_left]
 rcases Nat.le_total y x with hl | hl
 ·exact aux x y hl h
 ·exact (aux y x hl h.symm).symm
theorem ut {p:Nat} {f:Nat→Nat} : ∀ n,(∀ i,i<n→Nat.Coprime p (f i))→Nat.Coprime p (jQ f n)
 | 0,_=>Nat.coprime_one_right p
 | n+1,h=>by
  rw [lG];exact (ut n (fun i hi=>h i (by omega))).mul_right (h n (by omega))
theorem DV (h:Nat) (hh:0<h):∀ n,((2*h) ^ n) % (2*h+1)=if n % 2=0 then 1 else 2*h
 | 0=>by simp;omega
 | n+1=>by
  rw [abf,Nat.mul_mod,DV h hh n];by_cases hn:n % 2=0
  ·rw [if_pos hn,if_neg (by omega),Nat.one_mul,Nat.mod_mod,aaR (by omega)]
  ·rw [if_neg hn,if_pos (by omega)]
   have:2*h % (2*h+1)=2*h:=aaR (by omega)
   rw [this]
   have e:2*h * (2*h)=1+(2*h+1) * (2*h - 1):=by
    obtain ⟨g,rfl⟩:∃ g,h=g+1:=⟨h - 1,by omega⟩
    rw [show 2 * (g+1) - 1=2*g+1 by omega];simp only [Nat.mul_add,Nat.add_mul,aaA,Nat.one_mul];omega
   rw [e,Nat.add_mul_mod_self_left,aaR (by omega)]
theorem DW {h a:Nat} (hh:0<h) (hp:∀ a,0<a→a<2*h+1→Nat.Coprime (2*h+1) a) (ha:Nat.Coprime (2*h+1) a) :
  (a ^ h) % (2*h+1)=if gy h a % 2=0 then 1 else 2*h:=by
 have e1:jQ (fun i=>a * (i+1)) h=a ^ h*jQ (fun i=>i+1) h:=by rw [xP,yP]
 have e2:jQ (fun i=>a * (i+1)) h % (2*h+1)=jQ (fun i=>qZ h (gU h a i) * (2*h) ^ vV h (gU h a i)) h % (2*h+1):=by
  refine DU _ h fun i hi=>?_;have h0:=vW ha hi;have h1:=xQ h a i;show gU h a i=_;generalize gU h a i=r at *;unfold qZ vV;by_cases hr:h<r
  ·rw [if_pos hr,if_pos hr,Nat.pow_one]
   have e:(2*h+1 - r) * (2*h)=r+(2*h+1) * (2*h - r):=by
    obtain ⟨s,hs⟩:∃ s,r+s=2*h:=⟨2*h - r,by omega⟩
    rw [show 2*h+1 - r=s+1 by omega,show 2*h - r=s by omega,←hs];simp only [Nat.add_mul,Nat.mul_add,abg];omega
   rw [e,Nat.add_mul_mod_self_left,aaR h1]
  ·rw [if_neg hr,if_neg hr,Nat.pow_zero,aaA,aaR h1]
 have e3:∀ n,jQ (fun i=>(2*h) ^ vV h (gU h a i)) n=(2*h) ^ fH (fun i=>vV h (gU h a i)) n:=by
  intro n;induction n with
  | zero=>rfl
  | succ n ih=>rw [lG,lF,ih,Nat.pow_add]
 have e4:=xP (fun i=>qZ h (gU h a i)) (fun i=>(2*h) ^ vV h (gU h a i)) h;rw [e1,e4,e3,OB ha (fun v=>v),abg (jQ _ h) ((2*h) ^ _)] at e2;have hF:Nat.Coprime (2*h+1) (jQ (fun i=>i+1) h):=ut h fun i hi=>hp _ (by omega) (by omega);rw [JF hF e2];exact DV h hh _
def Pn:Nat:=2147483579
def Qn:Nat:=1073741789
theorem VM:Pn=2*Qn+1:=rfl
theorem QA:GM Pn 46339 2=true:=by decide +kernel
theorem rf {a:Nat} (h0:0<a) (h1:a<Pn):Nat.Coprime Pn a:=Qz QA (by decide) h0 h1
def eu (a n:Nat):Nat:=a ^ n % Pn
def jac (x n:Nat):Bool:=gy ((n - 1) / 2) x % 2==0
theorem OI {x:Nat} (h0:0<x) (h1:x<Pn):jac x Pn=decide (eu x Qn=1):=by
 have hc:=rf h0 h1;have hp:∀ a,0<a→a<2*Qn+1→Nat.Coprime (2*Qn+1) a:=fun a h2 h3=>rf h2 h3;have h:=DW (h:=Qn) (a:=x) (by decide) hp hc;have e:(Pn - 1) / 2=Qn:=by decide
 unfold jac eu;rw [e,VM,h];by_cases hg:gy Qn x % 2=0
 ·rw [if_pos hg,hg];rfl
 ·rw [if_neg hg]
  have:(gy Qn x % 2==0)=false:=by simpa using hg
  rw [this];symm;exact decide_eq_false (by decide)
theorem UB (n:Nat):jac 1 n=true:=by unfold jac;rw [OE];rfl
theorem Ym {x n:Nat} (hn:n % 2=1):jac (x % n) n=jac x n:=by
 unfold jac
 have:n=2 * ((n - 1) / 2)+1:=by omega
 have h:=OD ((n - 1) / 2) x;rw [←this] at h;rw [h]
theorem XP {y n:Nat} (hc:Nat.Coprime n (2*y)):Nat.Coprime n y:=hc.coprime_mul_left_right
theorem QB {y n:Nat} (hn:n % 2=1) (hc:Nat.Coprime n (2*y)):jac (2*y) n=(jac y n == !(n % 8==3||n % 8==5)):=by
 have e:n=2 * ((n - 1) / 2)+1:=by omega
 have hc2:Nat.Coprime n 2:=hc.coprime_mul_right_right;have h:=OG (h:=(n - 1) / 2) (a:=2) (b:=y) (by rw [←e];exact hc2) (by rw [←e];exact XP hc);rw [OH] at h;unfold jac;rw [h];generalize gy ((n - 1) / 2) y=g;have h8:n % 8=1∨n % 8=3∨n % 8=5∨n % 8=7:=by omega
 have hg:g % 2=0∨g % 2=1:=by omega
 rcases h8 with h8 | h8 | h8 | h8 <;> rcases hg with hg | hg <;> rw [h8,hg,Nat.add_mod,hg]
 all_goals
  first
  | (rw [show ((n - 1) / 2 - (n - 1) / 2 / 2) % 2=0 by omega];rfl)
  | (rw [show ((n - 1) / 2 - (n - 1) / 2 / 2) % 2=1 by omega];rfl)
theorem QC {x n:Nat} (hn:n % 2=1) (hx:x % 2=1) (hc:Nat.Coprime n x):jac x n=(jac (n % x) x == !(x % 4==3&&n % 4==3)):=by
 have e:n=2 * ((n - 1) / 2)+1:=by omega
 have e':x=2 * ((x - 1) / 2)+1:=by omega
 have h:=GL (h:=(n - 1) / 2) (g:=(x - 1) / 2) (by rw [←e,←e'];exact hc);rw [←e,←e'] at h;rw [Ym hx];unfold jac;generalize gy ((n - 1) / 2) x=u at *;generalize gy ((x - 1) / 2) n=v at *;rw [Nat.mul_mod] at h;have hu:u % 2=0∨u % 2=1:=by omega
 have hv:v % 2=0∨v % 2=1:=by omega
 have h4:n % 4=1∨n % 4=3:=by omega
 have h4':x % 4=1∨x % 4=3:=by omega
 rcases h4 with h4 | h4 <;> rcases h4' with h4' | h4'
 ·rw [show (n - 1) / 2 % 2=0 by omega] at h
  rcases hu with hu | hu <;> rcases hv with hv | hv <;> rw [hu,hv,h4,h4'] <;> first | rfl | omega
 ·rw [show (n - 1) / 2 % 2=0 by omega] at h
  rcases hu with hu | hu <;> rcases hv with hv | hv <;> rw [hu,hv,h4,h4'] <;> first | rfl | omega
 ·rw [show (x - 1) / 2 % 2=0 by omega] at h
  rcases hu with hu | hu <;> rcases hv with hv | hv <;> rw [hu,hv,h4,h4'] <;> first | rfl | omega
 ·rw [show (x - 1) / 2 % 2=1 by omega,show (n - 1) / 2 % 2=1 by omega] at h
  rcases hu with hu | hu <;> rcases hv with hv | hv <;> rw [hu,hv,h4,h4'] <;> first | rfl | omega
theorem EP (a n:Nat):eu a n<Pn:=aaC _ (by decide)
theorem GN (a m n:Nat):eu a (m+n)=eu a m*eu a n % Pn:=by unfold eu;rw [Nat.pow_add,Nat.mul_mod]
theorem pI (a m n:Nat):eu a (m*n)=eu (eu a m) n:=by unfold eu;rw [Nat.pow_mul,Nat.pow_mod]
theorem uP (a b n:Nat):eu (a*b % Pn) n=eu a n*eu b n % Pn:=by unfold eu;rw [←Nat.pow_mod,Nat.mul_pow,Nat.mul_mod]
theorem QD (a:Nat) (h:a<Pn):eu a 1=a:=by unfold eu;rw [Nat.pow_one,aaR h]
theorem rq (n:Nat):eu 1 n=1:=by unfold eu;rw [Nat.one_pow];rfl
def MJ:Nat→Nat→Nat→Nat→Nat
 | 0,c,_,_=>c
 | k+1,c,a,n=>MJ k (if n % 2=1 then c*a % Pn else c) (a*a % Pn) (n / 2)
theorem yS (c a n:Nat):(c*a ^ n) % Pn=((if n % 2=1 then c*a % Pn else c) * (a*a % Pn) ^ (n / 2)) % Pn:=by
 have e:a ^ n=(if n % 2=1 then a else 1) * (a*a) ^ (n / 2):=by
  rw [←Nat.pow_two,←Nat.pow_mul]
  split
  ·rename_i h
   rw [abg a,←abf];congr 1;omega
  ·rename_i h
   rw [Nat.one_mul];congr 1;omega
 have e2:∀ u v w:Nat,(u * (v % Pn) ^ w) % Pn=(u*v ^ w) % Pn:=fun u v w=>by
  rw [Nat.mul_mod,←Nat.pow_mod,←Nat.mul_mod]
 rw [e2,e]
 split
 ·rw [←Nat.mul_assoc,Nat.mod_mul_mod]
 ·rw [Nat.one_mul]
theorem GR:∀ k c a n,n<2 ^ k→c<Pn→MJ k c a n=(c*a ^ n) % Pn
 | 0,c,a,n,h,hc=>by
  have:n=0:=by simpa using h
  subst this;rw [Nat.pow_zero,aaA,aaR hc];rfl
 | k+1,c,a,n,h,hc=>by
  rw [abf] at h;rw [yS];exact GR k _ _ _ (by omega) (by split;exact aaC _ (by decide);exact hc)
theorem xU {a n:Nat} (h:n<2 ^ 31):eu a n=MJ 31 1 a n:=by
 rw [GR 31 1 a n h (by decide),Nat.one_mul];rfl
section
open Go.RowKit
def xW (x:Nat):Bool:=eu x Qn==1
def aA (x:Int):Bool:=decide (1≤x)&&(decide (x<2147483579)&&xW x.toNat)
theorem lH (x:Int):aA x=true↔1≤x∧x<2147483579∧eu x.toNat Qn=1:=by
 unfold aA xW;simp
theorem JG {x:Int} (h:x<1):aA x=false:=by unfold aA;rw [decide_eq_false (by omega)];rfl
theorem GU {x:Int} (h:2147483579≤x):aA x=false:=by unfold aA;rw [decide_eq_false (p:=x<2147483579) (by omega)];simp
theorem JH {x:Nat} (h0:0<x) (h1:x<2147483579):aA (x:Int)=jac x Pn:=by
 rw [OI h0 h1];unfold aA xW;rw [decide_eq_true (by omega),decide_eq_true (by omega),aba];simp only [aaM];by_cases h:eu x Qn=1
 ·rw [h];rfl
 ·rw [beq_eq_false_iff_ne.2 h,decide_eq_false h]
def JacRel (x0:Nat) (x n:Nat) (sq:Bool):Prop:=0<x∧n % 2=1∧x<n∧n≤2147483579∧Nat.Coprime n x∧jac x0 Pn=(sq==jac x n)
theorem JacRel.start {x:Nat} (h0:0<x) (h1:x<2147483579):JacRel x x 2147483579 true :=
 ⟨h0,by decide,h1,aad _,rf h0 h1,by show jac x Pn=(true==jac x Pn);simp⟩
theorem JacRel.half {x0 y n:Nat} {sq:Bool} (h:JacRel x0 (2*y) n sq):JacRel x0 y n (sq == !(n % 8==3||n % 8==5)):=by
 obtain ⟨h1,h2,h3,h4,h5,h6⟩:=h;refine ⟨by omega,h2,by omega,h4,XP h5,?_⟩;rw [h6,QB h2 h5];generalize jac y n=a;generalize (n % 8==3||n % 8==5)=b;cases sq <;> cases a <;> cases b <;> rfl
theorem JacRel.swap {x0 x n:Nat} {sq:Bool} (h:JacRel x0 x n sq) (hx:x % 2=1) (h1:1<x):JacRel x0 (n % x) x (sq == !(x % 4==3&&n % 4==3)):=by
 obtain ⟨_,h2,h3,h4,h5,h6⟩:=h
 have hc:Nat.Coprime x (n % x):=by
  have:Nat.gcd x (n % x)=1:=by rw [Nat.gcd_comm,←Nat.gcd_rec,Nat.gcd_comm];exact h5
  exact this
 refine ⟨?_,hx,aaC _ (by omega),by omega,hc,?_⟩
 ·rcases aa7 (n % x) with h0 | h0
  ·rw [h0] at hc
   have:x=1:=by simpa [Nat.Coprime] using hc
   omega
  ·exact h0
 ·rw [h6,QC h2 hx h5]
  generalize jac (n % x) x=a;generalize (x % 4==3&&n % 4==3)=b;cases sq <;> cases a <;> cases b <;> rfl
theorem JacRel.done {x0 n:Nat} {sq:Bool} (h:JacRel x0 1 n sq):jac x0 Pn=sq:=by
 rw [h.2.2.2.2.2,UB];cases sq <;> rfl
theorem WZ (a b:Bool):(a == !(true||b))=!a:=by cases a <;> cases b <;> rfl
theorem W9 (a:Bool):(a == !(false||true))=!a:=by cases a <;> rfl
theorem Xa (a:Bool):(a == !(false||false))=a:=by cases a <;> rfl
theorem VX (a:Bool):(a == !(true&&true))=!a:=by cases a <;> rfl
theorem VY (a:Bool):(a == !(true&&false))=a:=by cases a <;> rfl
theorem Xb (a b:Bool):(a == !(false&&b))=a:=by cases a <;> cases b <;> rfl
theorem bU (x:Int) (w:World):Calls prog 131 #[.int .i64 x] w (Same (.bool (aA x)) w):=by
 by_cases h0:x<1
 ·have hv:=aab (JG h0)
  go_enter func131,ntmps131;go_wp2;go_step3;go_wp2
  rw [Exit.noGoto_ret];go_ret;exact ⟨aI hv.out.symm,rfl⟩
 by_cases h1:2147483579≤x
 ·have hv:=aab (GU h1)
  go_enter func131,ntmps131;go_wp2;go_step3;go_wp2
  rw [Exit.noGoto_ret];go_ret;exact ⟨aI hv.out.symm,rfl⟩
 obtain ⟨x0,rfl⟩:=abB (show 0≤x by omega);have hx0:0<x0:=by omega
 have hx1:x0<2147483579:=by omega
 have hv:=aab (JH hx0 hx1);have hs:=aab (JacRel.start hx0 hx1);clear h0 h1;go_enter func131,ntmps131;go_wp2;go_step3;go_wp2;go_step3;go_wp2
 go_loop [0,3,4] (fun a b c=>∃ (x n:Nat) (sq:Bool),a = .int .i64 x∧b = .int .i64 n∧c = .bool sq∧Hid (JacRel x0 x n sq)) (fun _ b _=>(intOf b).toNat)
 case atStart=>exact ⟨_,_,_,rfl,rfl,rfl,hs⟩
 case round =>
  clear hs;obtain ⟨x,n,sq,rfl,rfl,rfl,hj⟩:=hrel;have g:=hj.out;have hx0:=g.1;have hxn:=g.2.2.1;have hnP:=g.2.2.2.1;clear g;by_cases hx:1<x
  ·have hx':((x:Int)==1)=false:=by simp;omega
   go_wp2
   go_loop [0,4] (fun a c=>∃ (y:Nat) (sq:Bool),a = .int .i64 y∧c = .bool sq∧y≤x∧Hid (JacRel x0 y n sq)) (fun a _=>(intOf a).toNat)
   case atStart=>exact ⟨_,_,rfl,rfl,aad _,hj⟩
   case round =>
    clear hj hx' hx0;obtain ⟨y,sq2,rfl,rfl,hyx,hj⟩:=hrel;have g:=hj.out;have hy0:=g.1;have hyn:=g.2.2.1;clear g;by_cases hev:y % 2=0
    ·obtain ⟨z,rfl⟩:∃ z,y=2*z:=⟨y / 2,by omega⟩
     have hh:=aab hj.out.half;have he:(((2*z:Nat):Int) % 2==0)=true:=(by simp);clear hj hev;by_cases h3:n % 8=3
     ·have h3':((n:Int) % 8==3)=true:=by simp;omega
      have h3n:(n % 8==3)=true:=(by simp [h3]);rw [h3n,WZ] at hh;clear h3 h3n;go_wp2
      exact ⟨⟨z,_,rfl,rfl,by omega,hh⟩,by simp [intOf];omega⟩
     ·have h3':((n:Int) % 8==3)=false:=by simp;omega
      have h3n:(n % 8==3)=false:=(by simp [h3]);rw [h3n] at hh;clear h3 h3n;by_cases h5:n % 8=5
      ·have h5':((n:Int) % 8==5)=true:=by simp;omega
       have h5n:(n % 8==5)=true:=(by simp [h5]);rw [h5n,W9] at hh;clear h5 h5n;go_wp2
       exact ⟨⟨z,_,rfl,rfl,by omega,hh⟩,by simp [intOf];omega⟩
      ·have h5':((n:Int) % 8==5)=false:=by simp;omega
       have h5n:(n % 8==5)=false:=(by simp [h5]);rw [h5n,Xa] at hh;clear h5 h5n;go_wp2
       exact ⟨⟨z,_,rfl,rfl,by omega,hh⟩,by simp [intOf];omega⟩
    ·have hev':y % 2=1:=by omega
     have he:(((y:Nat):Int) % 2==0)=false:=(by simp;omega);clear hev;by_cases hy1:y=1
     ·subst hy1
      have hd:=aab hj.out.done;go_wp2
      try rw [Exit.noGoto_ret]
      go_ret;exact ⟨aI (by rw [hv.out,hd.out]),rfl⟩
     ·have hy2:1<y:=by omega
      have hh:=aab (hj.out.swap hev' hy2);have hy3:((y:Int)==1)=false:=(by simp;omega);clear hj hy1;by_cases h3:y % 4=3
      ·have h3':((y:Int) % 4==3)=true:=by simp;omega
       have h3n:(y % 4==3)=true:=(by simp [h3]);rw [h3n] at hh;by_cases h4:n % 4=3
       ·have h4':((n:Int) % 4==3)=true:=by simp;omega
        have h4n:(n % 4==3)=true:=(by simp [h4]);rw [h4n,VX] at hh;clear h3 h4 h3n h4n;go_wp2
        exact ⟨⟨n % y,y,_,by go_num,rfl,rfl,hh⟩,by simp [intOf];omega⟩
       ·have h4':((n:Int) % 4==3)=false:=by simp;omega
        have h4n:(n % 4==3)=false:=(by simp [h4]);rw [h4n,VY] at hh;clear h3 h4 h3n h4n;go_wp2
        exact ⟨⟨n % y,y,_,by go_num,rfl,rfl,hh⟩,by simp [intOf];omega⟩
      ·have h3':((y:Int) % 4==3)=false:=by simp;omega
       have h3n:(y % 4==3)=false:=(by simp [h3]);rw [h3n,Xb] at hh;clear h3 h3n;go_wp2
       exact ⟨⟨n % y,y,_,by go_num,rfl,rfl,hh⟩,by simp [intOf];omega⟩
  ·obtain rfl:x=1:=by omega
   have hd:=aab hj.out.done;go_wp2
   go_ret;exact ⟨aI (by rw [hv.out,hd.out]),rfl⟩
def gV (P:Program) (fn:Func) (tmps:Array Value) (R:Ending→World→Prop):List Deferred→FrameMode→World→Prop
 | [],u,w=>Leaves P fn tmps R [] u w
 | d::ds,u,w=>u ≠ .run ∧
   ((∃ r w', d.target = .collected r ∧ (Instr.takeDeferred r).run P w = .ok [] w' ∧ gV P fn tmps R ds u w') ∨
    (∃ fv cap f args, d.target = .fn fv cap ∧ (invoke d.target d.args).run P w = .ok (.enter f args) w ∧
     CallsD P f args u w fun
      | .returned _,u',w'=>gV P fn tmps R ds (settle u') w'
      | .panicked chain,u',w'=>gV P fn tmps R ds (raised u' chain) w'
      | .outgrown,_,w'=>R .outgrown w'))
theorem jl {P:Program} {fn:Func} {tmps:Array Value} {R:Ending→World→Prop} : ∀ (ds:List Deferred) (u:FrameMode) (w:World) (fr:Frame)
  (cs:List Frame),fr.mode=u→fr.defers=ds→fr.tmps=tmps→P.funcs[fr.fn]?=some fn→fr.kind = .normal→gV P fn tmps R ds u w →
  ∃ e w' fr',R e w'∧Comes P (lone fr cs w) (lone fr' cs w') e∧fr'.fn=fr.fn∧fr'.leaving P w' e:=by
 intro ds;induction ds with
 | nil=>exact fun u w fr cs hu hd ht hf hk h=>leaves_steps [] u w fr cs hu hd ht hf hk h
 | cons d ds ih =>
  intro u w fr cs hu hd ht hf hk h;obtain ⟨hrun,h⟩:=h;rcases h with ⟨r,w',htar,htake,hrest⟩ | ⟨fv,cap,f,args,htar,hinv,hcall⟩
  ·have h1:=step_collected (cs:=cs) (hu▸hrun) hd htar htake
   obtain ⟨e',w'',fr',hR',hs',hfn',hl'⟩:=ih u w' { fr with defers:=[]++ds } cs hu rfl ht hf hk hrest;exact ⟨e',w'',fr',hR',Comes.of_steps (.one h1) hs',hfn',hl'⟩
  ·have h1:=step_defer (cs:=cs) (hu▸hrun) hd htar hinv
   obtain ⟨e,u',w',frX,hR,hsteps,hkX,hgo⟩:=hcall { fr with defers:=ds } cs hu;cases e with
   | outgrown=>exact ⟨.outgrown,w',fr,hR,Outgrown.of_steps (.one h1) hsteps,rfl,trivial⟩
   | returned v =>
    have h2:=step_going_returned (c:={ { fr with defers:=ds } with mode:=u' }) (cs:=cs) hkX hgo;obtain ⟨e',w'',fr',hR',hs',hfn',hl'⟩:=ih (settle u') w' { { { fr with defers:=ds } with mode:=u' } with mode:=settle u' } cs rfl rfl ht hf hk hR;exact ⟨e',w'',fr',hR',Comes.of_steps (.head h1 (Steps.trans hsteps (.one h2))) hs',hfn',hl'⟩
   | panicked chain =>
    have h2:=step_going_panicked (c:={ { fr with defers:=ds } with mode:=u' }) (cs:=cs) hgo;obtain ⟨e',w'',fr',hR',hs',hfn',hl'⟩:=ih (raised u' chain) w' { { { fr with defers:=ds } with mode:=u' } with mode:=raised u' chain } cs rfl rfl ht hf hk hR;exact ⟨e',w'',fr',hR',Comes.of_steps (.head h1 (Steps.trans hsteps (.one h2))) hs',hfn',hl'⟩
def AP (P:Program) (fn:Func) (R:Ending→World→Prop):Exit→Act→World→Prop
 | .normal,a,w | .ret,a,w=>gV P fn a.tmps R a.defers .returning w
 | .panic chain,a,w=>gV P fn a.tmps R a.defers (.panicking chain) w
 | .outgrown,_,w=>R .outgrown w
 | _,_,_=>False
theorem dQ {P:Program} {f:FuncId} {fn:Func} {c:Code} {args:Array Value} {w:World} {R:Ending→World→Prop}
  (hf:P.funcs[f]?=some fn) (hb:fn.body=some c)
  (h:c.wp P (AP P fn R) { tmps:=args++Array.replicate (fn.ntmps - args.size) undef,defers:=[] } w):Calls P f args w R:=by
 intro cs
 let b:Frame:={ (default:Frame) with fn:=f,kind := .normal }
 have henter:Frame.enter P f args .normal =
   b.at { tmps:=args++Array.replicate (fn.ntmps - args.size) undef,defers:=[] } [.code c]:=by
  simp [Frame.enter,Frame.at,hf,hb,b]
 obtain ⟨e,a',w',hq,harr⟩:=h b [] cs;rw [←henter] at harr;cases e with
 | normal =>
  obtain ⟨e',w'',fr',hR,hs,hfn,hl⟩:=jl a'.defers .returning w' { b.at a' [] with mode := .returning } cs rfl rfl rfl hf rfl hq;exact ⟨e',w'',fr',hR,Comes.of_steps (Steps.trans harr (.one step_end)) hs,hfn,hl⟩
 | ret =>
  obtain ⟨todo,hs₀⟩:=harr;obtain ⟨e',w'',fr',hR,hs,hfn,hl⟩:=jl a'.defers .returning w' { b.at a' todo with mode := .returning } cs rfl rfl rfl hf rfl hq;exact ⟨e',w'',fr',hR,Comes.of_steps hs₀ hs,hfn,hl⟩
 | panic chain =>
  obtain ⟨todo,hs₀⟩:=harr;obtain ⟨e',w'',fr',hR,hs,hfn,hl⟩:=jl a'.defers (.panicking chain) w' { b.at a' todo with mode := .panicking chain } cs rfl rfl rfl hf rfl hq;exact ⟨e',w'',fr',hR,Comes.of_steps hs₀ hs,hfn,hl⟩
 | exit id=>exact hq.elim
 | goto l=>exact hq.elim
 | outgrown=>exact ⟨.outgrown,w',b,hq,harr.resolve_left (by simp [b]),rfl,trivial⟩
structure Keeps (S:Nat→Prop) (A B:World):Prop where
 size:A.heap.size≤B.heap.size
 same:∀ k,S k→B.heap[k]?=A.heap[k]?
section
variable {S:Nat→Prop} {A B C:World}
theorem Keeps.refl (S:Nat→Prop) (A:World):Keeps S A A:=⟨aad _,fun _ _=>rfl⟩
theorem Keeps.trans (h:Keeps S A B) (k:Keeps S B C):Keeps S A C:=⟨aaj h.size k.size,fun i hi=>(k.same i hi).trans (h.same i hi)⟩
theorem Keeps.cell (h:Keeps S A B) {p:Addr} (hp:S p.block):B.cell? p=A.cell? p:=World.cell?_of_block (w:=A) (h.same _ hp)
theorem Keeps.of_below {n:Nat} (h:Below n A B) (hS:∀ k,S k→k<n):Keeps S A B:=⟨h.size,fun k hk=>h.block k (hS k hk)⟩
theorem Keeps.setCell (h:Keeps S A B) {p:Addr} (hp:¬S p.block) (u:Value):Keeps S A (B.setCell p u) :=
 h.trans ⟨by simp [World.setCell],fun k hk=>Below.heap_setCell _ _ _ _ (fun e=>by subst e;exact hp hk)⟩
theorem Keeps.alloc (h:Keeps S A B) (hS:∀ k,S k→k<B.heap.size) (o:Obj):Keeps S A (B.alloc o) :=
 h.trans ⟨by simp,fun k hk=>Below.heap_alloc _ _ _ (hS k hk)⟩
theorem Keeps.put {w:World} (hS:∀ k,S k→k<w.heap.size) (W:World) (l:Nat) (o o':Obj) (hl:w.heap.size≤l) (_:W.heap[l]?=some o) (_:o.isCells=false) (_:o.isWalk=false):Keeps S W (W.putObj l o') :=
 ⟨by simp,fun k hk=>World.putObj_heap_other (by have:=hS k hk;omega)⟩
theorem Rd.keeps {B' sz n:Nat} {a:Option Addr} {xs:List Value} (h:Rd A B' sz a n xs) (hk:Keeps S A B) (hS:∀ k,k<B'→S k):Rd B B' sz a n xs:=h.keep fun _ hp=>hk.cell (hS _ hp)
end
theorem Blk.kept {W W':World} {g:Nat} {t:TypeId} {cs:Array Value} {row:Option Nat} {B:Nat} (h:Blk W g t cs) (hg:W.grownBy W' row) (hr:∀ r,row=some r→B≤r∧∃ o:Obj,W.heap[r]?=some o∧o.isCells=false):Blk W' g t cs :=
 (grownBy_keeps_cells hg (fun r e=>(hr r e).2) h rfl).trans h
theorem Blk.put {W:World} {g D:Nat} {t:TypeId} {cs:Array Value} (h:Blk W g t cs) {o o':Obj} (hD:W.heap[D]?=some o) (ho:o.isCells=false):Blk (W.putObj D o') g t cs :=
 (World.putObj_heap_other (by intro e;subst e;unfold Blk at h;rw [h] at hD;cases hD;cases ho)).trans h
theorem gz {a W W':World} {row:Option Nat} {B:Nat} (h:Below a.heap.size a W) (hg:W.grownBy W' row) (hB:a.heap.size≤B) (hr:∀ r,row=some r→B≤r∧∃ o:Obj,W.heap[r]?=some o∧o.isCells=false):Below a.heap.size a W' :=
 h.grown hg h.size (fun k e=>aaj hB (hr k e).1)
theorem cZ {P:Program} {fn:Func} {tmps:Array Value} {R:Ending→World→Prop} {D:Nat} {ds:List Deferred} {u:FrameMode} {w:World}
  (hu:u ≠ .run) (hD:w.heap[D]?=some (.deferred (some []))) (h:gV P fn tmps R ds u (w.putObj D (.deferred none))) :
  gV P fn tmps R ({ target := .collected D,args:=#[] }::ds) u w :=
 ⟨hu,.inl ⟨D,_,rfl,run_takeDeferred hD,h⟩⟩
theorem uQ {a w:World} (h:Below a.heap.size a w) {D:Nat} (hD:a.heap.size≤D) (o:Obj):Below a.heap.size a (w.putObj D o) :=
 h.grown (grownBy_putObj' w D o) h.size (fun k e=>by cases e;exact hD)
end
end Go.Proofs.YthbibbkbaphpkaaGreatDoor
