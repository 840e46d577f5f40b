/- equal: powers and products, walked. -/
import Derived.Test.YtgkpomdegomgiaaGreatDoorMag
import Derived.Deep.RegionHeld3
import Derived.RangeFuncCalls
set_option maxRecDepth 1000000
set_option maxHeartbeats 16000000
namespace Go.Proofs.YtgkpomdegomgiaaGreatDoor
open Go.RowKit
def mulL (l:List Int):Int:=l.foldl mulV 1
def ordB (n:Int):Bool:=decide (0≤n∧n<1073741789)
theorem mulL_snoc (l:List Int) (x:Int):mulL (l++[x])=mulV (mulL l) x:=by simp [mulL]
theorem equal_pow (a n:Int) (W:World):Calls Tryz.prog 74 #[.int .i64 a,.int .i64 n] W (Ret (.int .i64 (powV a n)) W):=by
  have q:=group_pow a n W
  go_enter Tryz.func74,Tryz.ntmps74
  go_wp2_with fail
  with_reducible refine q.mono ?_
  rintro e w1 ⟨rfl,b1⟩
  clear q
  go_wp2_with fail
  go_ret
  exact ⟨rfl,b1⟩
theorem equal_inOrder (n:Int) (W:World):Calls Tryz.prog 116 #[.int .i64 n] W (Same (.bool (ordB n)) W):=by
  by_cases h:0≤n
  · by_cases h2 : n < 1073741789
    · have hd:Hid (ordB n=true):=decide_eq_true ⟨h,h2⟩
      go_enter Tryz.func116,Tryz.ntmps116
      go_wp2_with fail
      go_ret
      rw [hd.out];exact ⟨rfl,rfl⟩
    · have hd:Hid (ordB n=false):=decide_eq_false (fun c=>h2 c.2)
      go_enter Tryz.func116,Tryz.ntmps116
      go_wp2_with fail
      go_ret
      rw [hd.out];exact ⟨rfl,rfl⟩
  · have hd:Hid (ordB n=false):=decide_eq_false (fun c=>h c.1)
    go_enter Tryz.func116,Tryz.ntmps116
    go_wp2_with fail
    go_ret
    rw [hd.out];exact ⟨rfl,rfl⟩
theorem equal_mul (A:Option Addr) (n c:Nat) (l:List Int) (W:World) (hA:Rd W W.heap.size 1 A n (ints l)) (hn:n≤1000) :
    Calls Tryz.prog 73 #[.slice A n c] W (Same (.int .i64 (mulL l)) W):=by
  obtain rfl:l.length=n:=by have:=hA.1;rw [ints_length,Nat.mul_one] at this;exact this
  go_enter Tryz.func73,Tryz.ntmps73
  go_wp2_with fail
  go_loop [3,8] (fun s i=>∃ k:Nat,k≤l.length∧i = .int .i64 k∧s = .int .i64 (mulL (l.take k))) (fun _ i=>l.length - (intOf i).toNat)
  case atStart=>exact ⟨0,Nat.zero_le _,rfl,rfl⟩
  case round =>
    obtain ⟨k,hkn,rfl,rfl⟩:=hrel
    by_cases hlt:k<l.length
    · obtain ⟨x,hx⟩:∃ x,Hid (l[k]?=some x):=⟨_,Lib.hid (List.getElem?_eq_getElem hlt)⟩
      obtain ⟨b,off,rfl,hbb,c0⟩:=Int_at hA hlt hx.out
      have hs:Hid (mulL (l.take (k+1))=mulV (mulL (l.take k)) x):=by
        show _=_
        obtain ⟨hk,rfl⟩:=List.getElem?_eq_some_iff.1 hx.out
        rw [List.take_succ_eq_append_getElem hk,mulL_snoc]
      have q:=group_mul (mulL (l.take k)) x W
      go_wp2_with fail
      (with_reducible refine q.mono ?_)
      rintro e w1 ⟨rfl,rfl⟩
      clear q
      go_wp2_with fail
      exact ⟨⟨k+1,by omega,by go_num,by rw [hs.out]⟩,by simp [intOf];omega⟩
    · go_wp2_with fail
      go_ret
      exact ⟨ret_int (by rw [List.take_of_length_le (by omega)]),rfl⟩
theorem mulV_in (a b:Int):0≤mulV a b∧mulV a b<2147483579:=by
  unfold mulV
  split
  · split
    · exact ⟨Int.emod_nonneg _ (by omega),Int.emod_lt_of_pos _ (by omega)⟩
    · omega
  · omega
theorem mulL_in (l:List Int):inI (mulL l):=by
  rcases List.eq_nil_or_concat l with rfl | ⟨l,x,rfl⟩
  · exact (⟨by omega,by omega⟩:inI 1)
  · rw [List.concat_eq_append,mulL_snoc]
    have:=mulV_in (mulL l) x
    unfold inI;omega
theorem equal_mul2 (a b:Int) (W:World) :
    Calls Tryz.prog 73 #[.slice (some ⟨W.heap.size,0,none⟩) 2 2] (W.alloc (.cells #[.int .i64 a,.int .i64 b] 3)) (Same (.int .i64 (mulL [a,b])) (W.alloc (.cells #[.int .i64 a,.int .i64 b] 3))) :=
  equal_mul _ 2 2 [a,b] _ (Rd.new W (ints [a,b]) _ 1 2 _ rfl rfl) (by omega)
def secB (n:Int):Bool:=decide (1≤n∧n<1073741789)
theorem el_secret (n:Int) (W:World):Calls Tryz.prog 51 #[.int .i64 n] W (Same (.bool (secB n)) W):=by
  by_cases h:1≤n
  · by_cases h2 : n < 1073741789
    · have hd:Hid (secB n=true):=decide_eq_true ⟨h,h2⟩
      go_enter Tryz.func51,Tryz.ntmps51
      go_wp2_with fail
      go_ret
      rw [hd.out];exact ⟨rfl,rfl⟩
    · have hd:Hid (secB n=false):=decide_eq_false (fun c=>h2 c.2)
      go_enter Tryz.func51,Tryz.ntmps51
      go_wp2_with fail
      go_ret
      rw [hd.out];exact ⟨rfl,rfl⟩
  · have hd:Hid (secB n=false):=decide_eq_false (fun c=>h c.1)
    go_enter Tryz.func51,Tryz.ntmps51
    go_wp2_with fail
    go_ret
    rw [hd.out];exact ⟨rfl,rfl⟩
def pubV (s:Int):Int:=if secB s=true then powV 4 s else 0
def pubE (s:Int):Int:=if secB s=true then powE 4 else 110
theorem el_public (s:Int) (W:World):Calls Tryz.prog 19 #[.int .i64 s] W (Ret (.tuple #[.int .i64 (pubV s),.int .i64 (pubE s)]) W):=by
  have q:=el_secret s W
  cases h:secB s
  · rw [h] at q
    have h1:Hid (pubV s=0):=if_neg (by simp [h])
    have h2:Hid (pubE s=110):=if_neg (by simp [h])
    go_enter Tryz.func19,Tryz.ntmps19
    go_wp2_with fail
    (with_reducible refine q.mono ?_)
    rintro e w1 ⟨rfl,rfl⟩
    clear q
    go_wp2_with fail
    go_ret2
    rw [h1.out,h2.out]
    exact ⟨rfl,bRefl _⟩
  · rw [h] at q
    have h1:Hid (pubV s=powV 4 s):=if_pos h
    have h2:Hid (pubE s=powE 4):=if_pos h
    have q2:=group_pow 4 s W
    go_enter Tryz.func19,Tryz.ntmps19
    go_wp2_with fail
    (with_reducible refine q.mono ?_)
    rintro e w1 ⟨rfl,rfl⟩
    clear q
    go_wp2_with fail
    (with_reducible refine q2.mono ?_)
    rintro e w1 ⟨rfl,b⟩
    clear q2
    go_wp2_with fail
    go_ret2
    rw [h1.out,h2.out]
    exact ⟨rfl,b⟩
theorem el_power (a n:Int) (W:World):Calls Tryz.prog 56 #[.int .i64 a,.int .i64 n] W (Ret (.int .i64 (powV a n)) W):=by
  have q:=group_pow a n W
  go_enter Tryz.func56,Tryz.ntmps56
  go_wp2_with fail
  with_reducible refine q.mono ?_
  rintro e w1 ⟨rfl,b1⟩
  clear q
  go_wp2_with fail
  go_ret
  exact ⟨rfl,b1⟩
def foldV:Int→List Int→Option Int
  | c,[]=>some c
  | c,x::l=>if mulE c x=0 then foldV (mulV c x) l else none
def joinV (l:List Int):Int:=(foldV 1 l).getD 0
def joinE (l:List Int):Int:=if (foldV 1 l).isSome then 0 else 90
def timesL (l:List Int):Int:=l.foldl (fun c x=>c*x % 2147483579) 1
theorem timesL_snoc (l:List Int) (x:Int):timesL (l++[x])=timesL l*x % 2147483579:=by simp [timesL]
def inP (n:Int):Prop:=0≤n∧n<2147483579
theorem timesL_inP (l:List Int):inP (timesL l):=by
  rcases List.eq_nil_or_concat l with rfl | ⟨l,x,rfl⟩
  · exact (⟨by omega,by omega⟩:inP 1)
  · rw [List.concat_eq_append,timesL_snoc]
    exact ⟨Int.emod_nonneg _ (by omega),Int.emod_lt_of_pos _ (by omega)⟩
theorem el_times (A:Option Addr) (n c:Nat) (l:List Int) (W:World) (hA:Rd W W.heap.size 1 A n (ints l)) (hn:n≤1000) (hin:∀ x∈l,inP x) :
    Calls Tryz.prog 55 #[.slice A n c] W (Same (.int .i64 (timesL l)) W):=by
  obtain rfl:l.length=n:=by have:=hA.1;rw [ints_length,Nat.mul_one] at this;exact this
  go_enter Tryz.func55,Tryz.ntmps55
  go_wp2_with fail
  go_loop [3,8] (fun s i=>∃ k:Nat,k≤l.length∧i = .int .i64 k∧s = .int .i64 (timesL (l.take k))) (fun _ i=>l.length - (intOf i).toNat)
  case atStart=>exact ⟨0,Nat.zero_le _,rfl,rfl⟩
  case round =>
    obtain ⟨k,hkn,rfl,rfl⟩:=hrel
    by_cases hlt:k<l.length
    · obtain ⟨x,hx⟩:∃ x,Hid (l[k]?=some x):=⟨_,Lib.hid (List.getElem?_eq_getElem hlt)⟩
      obtain ⟨b,off,rfl,hbb,c0⟩:=Int_at hA hlt hx.out
      have hs:Hid (timesL (l.take (k+1))=timesL (l.take k)*x % 2147483579):=by
        show _=_
        obtain ⟨hk,rfl⟩:=List.getElem?_eq_some_iff.1 hx.out
        rw [List.take_succ_eq_append_getElem hk,timesL_snoc]
      obtain ⟨x1,x2⟩:=hin x (List.mem_of_getElem? hx.out)
      obtain ⟨r1,r2⟩:=timesL_inP (l.take k)
      obtain ⟨m1,m2⟩:=mul_rng r1 x1 r2 x2
      go_wp2_with fail
      exact ⟨⟨k+1,by omega,by go_num,by rw [hs.out]⟩,by simp [intOf];omega⟩
    · go_wp2_with fail
      go_ret
      exact ⟨ret_int (by rw [List.take_of_length_le (by omega)]),rfl⟩
theorem el_times2 (a b:Int) (W:World) (ha:inP a) (hb:inP b) :
    Calls Tryz.prog 55 #[.slice (some ⟨W.heap.size,0,none⟩) 2 2] (W.alloc (.cells #[.int .i64 a,.int .i64 b] 3)) (Same (.int .i64 (timesL [a,b])) (W.alloc (.cells #[.int .i64 a,.int .i64 b] 3))) :=
  el_times _ 2 2 [a,b] _ (Rd.new W (ints [a,b]) _ 1 2 _ rfl rfl) (by omega) (by intro x hx;simp at hx;rcases hx with rfl | rfl <;> assumption)
theorem powV_inP (a n:Int):inP (powV a n):=by
  unfold powV
  split
  · have h:powP a.toNat (expN n)<2147483579:=powP_lt a.toNat (expN n)
    unfold inP;omega
  · exact ⟨by omega,by omega⟩
theorem inR {n:Nat} {P:Program} {f:FuncId} {args:Array Value} {w:World} {R:Ending→World→Prop} (L:Nat) (h:Calls P f args w R):CallsIn (Fence.wide.inRound L) n P f args w R:=(callsIn_wide.2 h).inRound L
def Blks (W:World):List (Nat×TypeId×Array Value)→Prop
  | []=>True
  | x::l=>Blk W x.1 x.2.1 x.2.2∧Blks W l
theorem Blks.kept {W W':World} {row:Option Nat} {B:Nat} (hg:W.grownBy W' row) (hr:∀ r,row=some r→B≤r∧∃ o:Obj,W.heap[r]?=some o∧o.isCells=false):∀ {l:List (Nat×TypeId×Array Value)},Blks W l→Blks W' l
  | [],_=>trivial
  | _::_,h=>⟨h.1.kept hg hr,Blks.kept hg hr h.2⟩
theorem Blks.put {W:World} {D:Nat} {o o':Obj} (hD:W.heap[D]?=some o) (ho:o.isCells=false):∀ {l:List (Nat×TypeId×Array Value)},Blks W l→Blks (W.putObj D o') l
  | [],_=>trivial
  | _::_,h=>⟨h.1.put hD ho,Blks.put hD ho h.2⟩
def RoundPost {α:Type} (K:Nat→Prop) (base:World) (bl:List α→List (Nat×TypeId×Array Value)) (R:List α→Prop) (bx:Code→List α→List (Nat×TypeId×Array Value)) (Rx:Code→List α→Prop) (xs:List α) (W:World):Exit→Act→World→Prop
  | .normal,_,W'=>KeepsOthers W W'∧Keeps K W W'∧Below base.heap.size base W'∧Blks W' (bl xs)∧R xs
  | .ret,_,W'=>KeepsOthers W W'∧Below base.heap.size base W'∧Blks W' (bx .ret xs)∧Rx .ret xs
  | .exit id,_,W'=>KeepsOthers W W'∧Below base.heap.size base W'∧Blks W' (bx (.exit id) xs)∧Rx (.exit id) xs
  | .goto t,_,W'=>KeepsOthers W W'∧Below base.heap.size base W'∧Blks W' (bx (.goto t) xs)∧Rx (.goto t) xs
  | .panic _,_,_=>False
  | .outgrown,_,_=>False
theorem wp_rangeB {P:Program} {α:Type} {g:Operand} {ps:Array Tmp} {assign body:Code} {Q:Exit→Act→World→Prop} {a:Act} {w:World} (n:Nat)
    {gf:Nat} {lb:Array Value} (hg:a.eval g = .func (.func gf) #[] lb) (eg:∀ args w,(callFunc gf args).run P w = .ok (.enter gf args) w)
    {encs:α→Array Value} {S Sp:List α→Prop} {N:Nat} (K:Nat→Prop) (hseq:SeqT (fun _=>False) (n+1) P gf lb encs (Keeps K) S Sp N w) (hK:∀ k,K k→k<w.heap.size) (hps:∀ x,(encs x).size=ps.size)
    (base:World) (hb:Below base.heap.size base w) (bl:List α→List (Nat×TypeId×Array Value)) (R:List α→Prop) (bx:Code→List α→List (Nat×TypeId×Array Value)) (Rx:Code→List α→Prop)
    (h0:Blks w (bl [])) (hR0:R [])
    (hround:∀ (l:Nat) (pre:List α) (x:α) (W:World),pre.length<N →
      assign.wpIn (Fence.wide.inRound l) n P (Exit.then (fun a₁ W₁=>W=W₁∧∀ (L:Nat) (W2:World),Below base.heap.size base W2→Blks W2 (bl pre)→R pre→body.wpIn (Fence.wide.inRound L) n P (RoundPost K base bl R bx Rx (pre++[x]) W2) a₁ W2) (fun _ _ _=>False)) { tmps:=(ps.zip (encs x)).foldl (fun t (p,v)=>t.setIfInBounds p v) a.tmps,defers:=[] } W)
    (hdone:∀ (D:Nat) (xs:List α) (W:World),base.heap.size≤D→S xs→Below base.heap.size base W→Blks W (bl xs)→R xs→W.heap[D]?=some (.deferred (some []))→Q .normal { a with defers:={ target := .collected D,args:=#[] }::a.defers } W)
    (hstop:∀ (D:Nat) (c:Code) (pre:List α) (W:World),base.heap.size≤D→Sp pre→Below base.heap.size base W→Blks W (bx c pre)→Rx c pre→W.heap[D]?=some (.deferred (some []))→c.wp P Q { a with defers:={ target := .collected D,args:=#[] }::a.defers } W) :
    (Code.rangeFunc g ps assign body).wp P Q a w:=by
  refine wp_rangeFuncT n hg eg (S:=S) (Sp:=Sp) (N:=N) (w0:=w) (T:=fun _=>False) hseq (fun _ h=>h.elim) Keeps.trans (Keeps.put hK) (bRefl _) hps
    (fun pre W'=>Below base.heap.size base W'∧Blks W' (bl pre)∧R pre)
    (fun x a₁ pre W'=>(Below base.heap.size base W'∧Blks W' (bl pre)∧R pre)∧∀ (L:Nat) (W2:World),Below base.heap.size base W2→Blks W2 (bl pre)→R pre→body.wpIn (Fence.wide.inRound L) n P (RoundPost K base bl R bx Rx (pre++[x]) W2) a₁ W2)
    (fun c pre W'=>Below base.heap.size base W'∧Blks W' (bx c pre)∧Rx c pre)
    (fun pre A' B' row h hg hr=>⟨bGrown h.1 hg hb.size hr,Blks.kept hg hr h.2.1,h.2.2⟩)
    (fun x a pre A' B' row h hg hr=>⟨⟨bGrown h.1.1 hg hb.size hr,Blks.kept hg hr h.1.2.1,h.1.2.2⟩,h.2⟩)
    (fun c pre A' B' row h hg hr=>⟨bGrown h.1 hg hb.size hr,Blks.kept hg hr h.2.1,h.2.2⟩)
    (fun _ _ _ _ _ ht=>ht.elim)
    (fun _ _ _ _ _ _ ht=>ht.elim)
    ⟨hb,h0,hR0⟩ ?_ ?_ ?_ ?_
  · intro l pre x W hI hlen
    refine wpIn_mono (hround l pre x W hlen) ?_
    intro e a' w' hp
    cases e with
    | normal =>
      obtain ⟨rfl,hp⟩:=hp
      exact ⟨KeepsOthers.refl _,Keeps.refl _ _,hI,hp⟩
    | _=>exact hp
  · intro l pre x a₁ W hI hlen
    refine wpIn_mono (hI.2 l W hI.1.1 hI.1.2.1 hI.1.2.2) ?_
    intro e a' w' hp
    cases e with
    | normal=>exact ⟨hp.1,hp.2.1,hp.2.2.1,hp.2.2.2.1,hp.2.2.2.2⟩
    | ret=>exact ⟨hp.1,hp.2.1,hp.2.2.1,hp.2.2.2⟩
    | exit id=>exact ⟨hp.1,hp.2.1,hp.2.2.1,hp.2.2.2⟩
    | goto t=>exact ⟨hp.1,hp.2.1,hp.2.2.1,hp.2.2.2⟩
    | panic ch=>exact hp.elim
    | outgrown=>exact hp.elim
  · intro D xs W hD hS hI hd
    exact hdone D xs W (Nat.le_trans hb.size hD) hS hI.1 hI.2.1 hI.2.2 hd
  · intro D c pre W hD hS hI hd
    exact hstop D c pre W (Nat.le_trans hb.size hD) hS hI.1 hI.2.1 hI.2.2 hd
theorem Keeps.grown {S:Nat→Prop} {A B:World} {s:Nat} (hg:A.grownBy B (some s)) (hS:∀ k,S k→k<A.heap.size∧k≠s):Keeps S A B :=
  ⟨hg.size,fun k hk=>hg.block k (hS k hk).1 (by intro e;injection e with e;exact (hS k hk).2 e)⟩
theorem Blk.grown {A B:World} {s g:Nat} {t:TypeId} {cs:Array Value} (h:Blk A g t cs) (hg:A.grownBy B (some s)) (hne:g≠s):Blk B g t cs :=
  (hg.block g h.lt (by intro e;injection e with e;exact hne e)).trans h
theorem KeepsOthers.grown {A B:World} {s:Nat} {t:TypeId} {cs:Array Value} (hg:A.grownBy B (some s)) (h:Blk A s t cs):KeepsOthers A B :=
  KeepsOthers.of_grownBy hg (fun j o e ho=>by cases e;unfold Blk at h;rw [h] at ho;cases ho;rfl)
theorem bGrownS {a A B:World} {s:Nat} (h:Below a.heap.size a A) (hg:A.grownBy B (some s)) (hs:a.heap.size≤s):Below a.heap.size a B :=
  h.grown hg h.size (fun k e=>by cases e;exact hs)
theorem grownBy_below_set {A w1:World} (b:Below A.heap.size A w1) (s o:Nat) (v:Value):A.grownBy (w1.setCell ⟨s,o,none⟩ v) (some s):=by
  refine ⟨b.os,b.tape,b.output,Nat.le_trans b.size (by simp [World.setCell]),fun i hi hne=>?_⟩
  rw [Below.heap_setCell _ _ _ _ (by intro e;exact hne (by rw [e]))]
  exact b.block i hi
theorem grownBy_below {A w1:World} (b:Below A.heap.size A w1) (row:Option Nat):A.grownBy w1 row:=⟨b.os,b.tape,b.output,b.size,fun i hi _=>b.block i hi⟩
theorem KeepsOthers.below {A B:World} (b:Below A.heap.size A B):KeepsOthers A B:=KeepsOthers.of_grownBy (grownBy_below b none) (fun _ _ e _=>by cases e)
theorem grownBy_set {A B:World} {s:Nat} (h:A.grownBy B (some s)) (o:Nat) (v:Value):A.grownBy (B.setCell ⟨s,o,none⟩ v) (some s):=by
  refine ⟨h.os,h.tape,h.output,Nat.le_trans h.size (by simp [World.setCell]),fun i hi hne=>?_⟩
  rw [Below.heap_setCell _ _ _ _ (by intro e;exact hne (by rw [e]))]
  exact h.block i hi hne
end Go.Proofs.YtgkpomdegomgiaaGreatDoor
