/- Words for memory that all walks of this seat use: a slice that reads as a list of cells, a block that is known whole; posts behind definitions. -/
import Derived.Test.YtoeobcmmafncmaaGreatDoorRows
import Derived.WalkKit
import Derived.WalkSpells
import Derived.WalkLawsBesides
import Derived.Lib.Hide
import Derived.Deep.QuietTactic
import Derived.BigQuiet
import Derived.Laws.BitsAllLaws
import Derived.WalkSmall
import Derived.Outline
import Derived.Deep.RegionWith
import Derived.Deep.DeepCutAuto
set_option maxRecDepth 1000000
set_option maxHeartbeats 16000000
namespace Go.Proofs.YtoeobcmmafncmaaGreatDoor
open Go.RowKit
def Rd (w:World) (B sz:Nat) (A:Option Addr) (n:Nat) (xs:List Value):Prop :=
 xs.length=n*sz∧(0<n→∃ b off,A=some ⟨b,off,none⟩∧b<B∧∀ j u,xs[j]?=some u→w.cell? ⟨b,off+j,none⟩=some u)
section
variable {w w':World} {B B' sz n:Nat} {A:Option Addr} {xs:List Value}
theorem Rd.nil_:Rd w B sz A 0 []:=⟨by simp,fun h=>absurd h (by omega)⟩
theorem Rd.keep (h:Rd w B sz A n xs) (hk:∀ p:Addr,p.block<B→w'.cell? p=w.cell? p):Rd w' B sz A n xs :=
 ⟨h.1,fun hn=>by
  obtain ⟨b,off,e,hb,hc⟩:=h.2 hn
  exact ⟨b,off,e,hb,fun j u hu=>(hk _ hb).trans (hc j u hu)⟩⟩
theorem Rd.more (h:Rd w B sz A n xs) (hB:B≤B'):Rd w B' sz A n xs :=
 ⟨h.1,fun hn=>by
  obtain ⟨b,off,e,hb,hc⟩:=h.2 hn
  exact ⟨b,off,e,by omega,hc⟩⟩
theorem Rd.below (h:Rd w B sz A n xs) (hb:Below B w w'):Rd w' B sz A n xs:=h.keep fun _ hp=>hb.cell hp
theorem Rd.alloc (h:Rd w B sz A n xs) (hB:B≤w.heap.size) (o:Obj):Rd (w.alloc o) B sz A n xs :=
 h.below ((Below.refl _ _).alloc hB o)
end
def Blk (w:World) (g:Nat) (t:TypeId) (cs:Array Value):Prop:=w.heap[g]?=some (.cells cs t (0,0))
section
variable {w w':World} {g:Nat} {t:TypeId} {cs:Array Value}
theorem Blk.lt (h:Blk w g t cs):g<w.heap.size:=by
 rcases Nat.lt_or_ge g w.heap.size with hlt | hge
 ·exact hlt
 ·unfold Blk at h;rw [Array.getElem?_eq_none hge] at h;cases h
theorem Blk.cell (h:Blk w g t cs) (i:Nat):w.cell? ⟨g,i,none⟩=cs[i]?:=by
 unfold Blk at h;simp [World.cell?,h]
theorem Blk.frozen (h:Blk w g t cs) (i:Nat):w.frozen? ⟨g,i,none⟩=false:=by
 unfold Blk at h;simp [World.frozen?,h]
theorem Blk.new (w:World) (t:TypeId) (cs:Array Value) (b:Nat) (hb:b=w.heap.size):Blk (w.alloc (.cells cs t)) b t cs:=by
 subst hb
 show (w.heap.push _)[w.heap.size]?=_
 simp
theorem Blk.alloc (h:Blk w g t cs) (o:Obj):Blk (w.alloc o) g t cs:=(Below.heap_alloc w o g h.lt).trans h
theorem Blk.below {B:Nat} (h:Blk w g t cs) (hb:Below B w w') (hg:g<B):Blk w' g t cs:=(hb.block g hg).trans h
theorem Blk.far (h:Blk w g t cs) {p:Addr} (hp:g≠p.block) (u:Value):Blk (w.setCell p u) g t cs:=(Below.heap_setCell w p u g hp).trans h
theorem Blk.set_ (h:Blk w g t cs) (i:Nat) (u:Value):Blk (w.setCell ⟨g,i,none⟩ u) g t (cs.setIfInBounds i u):=by
 unfold Blk at h ⊢
 simp [World.setCell,Array.getElem?_modify,h]
end
theorem Rd.new (w:World) (cs:List Value) (t:TypeId) (sz n b:Nat) (hb:b=w.heap.size) (h:cs.length=n*sz) :
  Rd (w.alloc (.cells cs.toArray t)) (w.alloc (.cells cs.toArray t)).heap.size sz (some ⟨b,0,none⟩) n cs:=by
 subst hb
 exact ⟨h,fun _=>⟨w.heap.size,0,rfl,by simp,fun j u hu=>by
  rw [Nat.zero_add,(Blk.new w t cs.toArray _ rfl).cell j];simpa using hu⟩⟩
theorem bRefl (w:World):Below w.heap.size w w:=Below.refl _ _
theorem bAl {a w:World} (h:Below a.heap.size a w) (o:Obj):Below a.heap.size a (w.alloc o):=h.alloc h.size o
theorem bCall {a w w':World} (h:Below a.heap.size a w) (k:Below w.heap.size w w'):Below a.heap.size a w':=h.trans (k.mono h.size)
theorem bSet {a w:World} (h:Below a.heap.size a w) {p:Addr} (hp:a.heap.size≤p.block) (u:Value):Below a.heap.size a (w.setCell p u):=h.setCell hp u
theorem bDrN {a w:World} (h:Below a.heap.size a w) (n:Nat):Below a.heap.size a (w.drewN n):=⟨h.os,h.tape,h.output,h.size,h.block⟩
theorem bDr {a w:World} (h:Below a.heap.size a w):Below a.heap.size a w.drew:=h.drew
def Ret (v:Value) (w:World) (r:Ending) (w':World):Prop:=r = .returned v∧Below w.heap.size w w'
def Same (v:Value) (w:World) (r:Ending) (w':World):Prop:=r = .returned v∧w=w'
def Pan (T:TypeId) (e:Int) (w:World) (r:Ending) (w':World):Prop :=
 r = .panicked [{ v := .iface T (.int .i64 e),recovered:=false }]∧Below w.heap.size w w'
theorem ret_bool {a b:Bool} (h:a=b):Ending.returned (.bool a) = .returned (.bool b):=by rw [h]
theorem ret_int {k:IntKind} {a b:Int} (h:a=b):Ending.returned (.int k a) = .returned (.int k b):=by rw [h]
structure Later where
 blocks:Array Obj
 drawn:Nat
instance later_there:Inhabited Later:=⟨⟨#[],0⟩⟩
def later (w:World) (x:Later):World:={ w with heap:=w.heap++x.blocks,drawn:=x.drawn }
theorem later_below (w:World) (x:Later):Below w.heap.size w (later w x) :=
 ⟨rfl,rfl,rfl,by simp [later],fun k hk=>by simp [later,Array.getElem?_append,hk]⟩
theorem later_of {w w':World} (h:Below w.heap.size w w'):∃ x:Later,w'=later w x:=by
 refine ⟨⟨w'.heap.extract w.heap.size,w'.drawn⟩,?_⟩
 have he:w'.heap=w.heap++w'.heap.extract w.heap.size:=by
  apply Array.ext_getElem?
  intro i
  rw [Array.getElem?_append]
  split
  ·rename_i hi;exact h.block i hi
  ·rename_i hi
   have hs:=h.size
   rw [Array.getElem?_extract]
   by_cases hl:i<w'.heap.size
   ·rw [if_pos (by omega)]
    congr 1
    omega
   ·rw [if_neg (by omega),Array.getElem?_eq_none (by omega)]
 cases w' with
 | mk heap tape drawn os output =>
  have h1:=h.os
  have h2:=h.tape
  have h3:=h.output
  simp only at h1 h2 h3 he
  subst h1;subst h2;subst h3
  simp only [later,World.mk.injEq,and_true]
  exact he
theorem cell_later (w:World) (x:Later) (p:Addr) (h:p.block<w.heap.size):(later w x).cell? p=w.cell? p:=(later_below w x).cell h
theorem frozen_later (w:World) (x:Later) (p:Addr) (h:p.block<w.heap.size):(later w x).frozen? p=w.frozen? p:=(later_below w x).frozen h
theorem block_later (w:World) (x:Later) (b:Nat) (h:b<w.heap.size):(later w x).heap[b]?=w.heap[b]?:=(later_below w x).block b h
attribute [go_sem] cell_later frozen_later block_later
theorem Rd.later {w:World} {B sz n:Nat} {A:Option Addr} {xs:List Value} (h:Rd w B sz A n xs) (hB:B≤w.heap.size) (x:Later):Rd (later w x) B sz A n xs:=h.below ((later_below w x).mono hB)
theorem wp_region_later_lit {P:Program} {id:Nat} {Q:Exit→Act→World→Prop} {a:Act} {w:World} {l:List Oper} (w0:World) (h0:Below w0.heap.size w0 w) (hm:P.follows .mixedOrders=true) (hB:Region.lexB .any l.toArray=true)
  (h:wpQuiet P l.toArray (fun w'=>∃ x:Later,w'=Proofs.YtoeobcmmafncmaaGreatDoor.later w0 x) (fun a'=>∀ w',(∃ x:Later,w'=Proofs.YtoeobcmmafncmaaGreatDoor.later w0 x)→Q .normal a' w') l a):(Code.region id l.toArray true).wp P Q a w :=
 wp_region_quiet (C:=fun w'=>∃ x:Later,w'=Proofs.YtoeobcmmafncmaaGreatDoor.later w0 x) hm hB (later_of (Below.drew h0)) (by simpa using h)
theorem later_ret {P:Program} {f:FuncId} {args:Array Value} {v:Value} {w:World} {x:Later} (h:Calls P f args (later w x) (Ret v (later w x))) :
  Calls P f args (later w x) fun e w''=>e = .returned v∧∃ y:Later,w''=later w y :=
 h.mono fun _ _ ⟨he,hb⟩=>⟨he,later_of (bCall (later_below w x) hb)⟩
theorem later_same {P:Program} {f:FuncId} {args:Array Value} {v:Value} {w:World} {x:Later} (h:Calls P f args (later w x) (Same v (later w x))) :
  Calls P f args (later w x) fun e w''=>e = .returned v∧∃ y:Later,w''=later w y :=
 h.mono fun _ _ ⟨he,hb⟩=>⟨he,x,hb.symm⟩
theorem Rd.cut {w:World} {B sz n b off:Nat} {xs:List Value} (h:Rd w B sz (some ⟨b,off,none⟩) n xs) (k:Nat) (hk:k≤n):Rd w B sz (some ⟨b,off+k*sz,none⟩) (n - k) (xs.drop (k*sz)):=by
 refine ⟨by rw [List.length_drop,h.1,Nat.sub_mul],fun hn=>?_⟩
 obtain ⟨b',off',e,hb,hc⟩:=h.2 (by omega)
 injection e with e
 injection e with e1 e2
 subst e1;subst e2
 refine ⟨_,_,rfl,hb,fun j u hu=>?_⟩
 rw [List.getElem?_drop] at hu
 have:=hc _ u hu
 rwa [←Nat.add_assoc] at this
def ints (l:List Int):List Value:=l.map (Value.int .i64)
theorem ints_length (l:List Int):(ints l).length=l.length:=by simp [ints]
theorem ints_at {l:List Int} {k:Nat} {x:Int} (h:l[k]?=some x):(ints l)[k]?=some (.int .i64 x):=by simp [ints,h]
theorem Int_at {w:World} {B n k:Nat} {A:Option Addr} {l:List Int} {x:Int} (h:Rd w B 1 A n (ints l)) (hn:k<n) (hx:l[k]?=some x) :
  ∃ b off,A=some ⟨b,off,none⟩∧b<B∧w.cell? ⟨b,off+k,none⟩=some (.int .i64 x):=by
 obtain ⟨b,off,hA,hb,hc⟩:=h.2 (by omega)
 exact ⟨b,off,hA,hb,hc _ _ (ints_at hx)⟩
def RetIL (l:List Int) (e:Int) (w:World) (r:Ending) (w':World):Prop :=
 ∃ A c,r = .returned (.tuple #[.slice A l.length c,.int .i64 e])∧Below w.heap.size w w'∧Rd w' w'.heap.size 1 A l.length (ints l)
theorem Rd.of_own {w:World} {base:Nat} {e:TypeId} {sz n:Nat} {v:Value} {xs:List Value} (h:w.ownsRow base e sz v n xs):∃ A c,v = .slice A n c∧Rd w w.heap.size sz A n xs:=by
 rcases h.2 with ⟨rfl,rfl⟩ | ⟨g,cap,cur,rfl,_,hg,hnc,_,hsz,htk⟩
 ·exact ⟨none,0,rfl,h.1,fun hn=>absurd hn (by omega)⟩
 ·refine ⟨_,_,rfl,h.1,fun _=>⟨g,0,rfl,Blk.lt hg,fun j u hu=>?_⟩⟩
  rw [Nat.zero_add,Blk.cell hg]
  rw [←htk,List.getElem?_take] at hu
  split at hu
  ·simpa using hu
  ·cases hu
theorem ownsRow_keep {w w':World} {base:Nat} {e:TypeId} {sz n:Nat} {v:Value} {xs:List Value} (h:w.ownsRow base e sz v n xs) (hb:Below w.heap.size w w'):w'.ownsRow base e sz v n xs:=by
 obtain ⟨h1,h2⟩:=h
 refine ⟨h1,?_⟩
 rcases h2 with h2 | ⟨g,cap,cur,hv,hg,hh,r⟩
 ·exact .inl h2
 ·exact .inr ⟨g,cap,cur,hv,hg,(hb.block g (Blk.lt hh)).trans hh,r⟩
theorem flat_at {α:Type} {f:α→List Value} {sz:Nat} (hf:∀ x,(f x).length=sz):∀ (l:List α) (i j:Nat) (x:α),l[i]?=some x→j<sz →
  (l.flatMap f)[i*sz+j]?=(f x)[j]?
 | [],i,j,x,h,_=>by simp at h
 | y::l,0,j,x,h,hj=>by
  simp only [List.getElem?_cons_zero,Option.some.injEq] at h
  subst h
  rw [List.flatMap_cons,Nat.zero_mul,Nat.zero_add,List.getElem?_append_left (by rw [hf];exact hj)]
 | y::l,i+1,j,x,h,hj=>by
  simp only [List.getElem?_cons_succ] at h
  rw [List.flatMap_cons,List.getElem?_append_right (by rw [hf,Nat.succ_mul];omega),hf]
  have:(i+1)*sz+j - sz=i*sz+j:=by rw [Nat.succ_mul];omega
  rw [this]
  exact flat_at hf l i j x h hj
def M32:Nat:=4294967296
def rotN (v a:Nat):Nat:=(v*2 ^ (32 - a) % 4294967296) ||| (v / 2 ^ a)
theorem rotN_lt {v a:Nat} (h:v<4294967296):rotN v a<4294967296:=by
 unfold rotN
 exact Nat.or_lt_two_pow (n:=32) (Nat.mod_lt _ (by decide)) (Nat.lt_of_le_of_lt (Nat.div_le_self _ _) h)
def rot3 (v a b c:Nat):Nat:=rotN v a ^^^ rotN v b ^^^ rotN v c
theorem xor_lt {a b:Nat} (ha:a<4294967296) (hb:b<4294967296):a ^^^ b<4294967296:=Nat.xor_lt_two_pow (n:=32) ha hb
def nextW (z y s x:Nat):Nat:=(z+(rotN y 7 ^^^ rotN y 18 ^^^ y / 8)+s+(rotN x 17 ^^^ rotN x 19 ^^^ x / 1024)) % 4294967296
def growW (w:List Nat):List Nat:=w++[nextW (w[w.length - 16]?.getD 0) (w[w.length - 15]?.getD 0) (w[w.length - 7]?.getD 0) (w[w.length - 2]?.getD 0)]
def schedW (w:List Nat):Nat→List Nat
 | 0=>w
 | k+1=>growW (schedW w k)
structure S8 where
 a:Nat
 b:Nat
 c:Nat
 d:Nat
 e:Nat
 f:Nat
 g:Nat
 h:Nat
def S8.ok (s:S8):Prop:=s.a<4294967296∧s.b<4294967296∧s.c<4294967296∧s.d<4294967296∧s.e<4294967296∧s.f<4294967296∧s.g<4294967296∧s.h<4294967296
def S8.list (s:S8):List Nat:=[s.a,s.b,s.c,s.d,s.e,s.f,s.g,s.h]
def roundP (s:S8) (k w:Nat):Nat:=(s.h+rot3 s.e 6 11 25+(s.g ^^^ (s.e &&& (s.f ^^^ s.g)))+k+w) % 4294967296
def roundQ (s:S8):Nat:=(rot3 s.a 2 13 22+((s.a &&& s.b) ||| (s.c &&& (s.a ||| s.b)))) % 4294967296
def roundS (s:S8) (k w:Nat):S8:=⟨(roundP s k w+roundQ s) % 4294967296,s.a,s.b,s.c,(s.d+roundP s k w) % 4294967296,s.e,s.f,s.g⟩
theorem roundS_ok {s:S8} {k w:Nat} (h:s.ok):(roundS s k w).ok:=by
 obtain ⟨h1,h2,h3,h4,h5,h6,h7,h8⟩:=h
 exact ⟨Nat.mod_lt _ (by decide),h1,h2,h3,Nat.mod_lt _ (by decide),h5,h6,h7⟩
def roundsS (ks ws:List Nat) (s:S8):Nat→S8
 | 0=>s
 | t+1=>roundS (roundsS ks ws s t) (ks[t]?.getD 0) (ws[t]?.getD 0)
def addS (s v:S8):S8:=⟨(s.a+v.a) % 4294967296,(s.b+v.b) % 4294967296,(s.c+v.c) % 4294967296,(s.d+v.d) % 4294967296,(s.e+v.e) % 4294967296,(s.f+v.f) % 4294967296,(s.g+v.g) % 4294967296,(s.h+v.h) % 4294967296⟩
theorem addS_ok (s v:S8):(addS s v).ok:=⟨Nat.mod_lt _ (by decide),Nat.mod_lt _ (by decide),Nat.mod_lt _ (by decide),Nat.mod_lt _ (by decide),Nat.mod_lt _ (by decide),Nat.mod_lt _ (by decide),Nat.mod_lt _ (by decide),Nat.mod_lt _ (by decide)⟩
def shaK:List Nat:=[
 0x428a2f98,0x71374491,0xb5c0fbcf,0xe9b5dba5,0x3956c25b,0x59f111f1,0x923f82a4,0xab1c5ed5,0xd807aa98,0x12835b01,0x243185be,0x550c7dc3,0x72be5d74,0x80deb1fe,0x9bdc06a7,0xc19bf174,
 0xe49b69c1,0xefbe4786,0x0fc19dc6,0x240ca1cc,0x2de92c6f,0x4a7484aa,0x5cb0a9dc,0x76f988da,0x983e5152,0xa831c66d,0xb00327c8,0xbf597fc7,0xc6e00bf3,0xd5a79147,0x06ca6351,0x14292967,
 0x27b70a85,0x2e1b2138,0x4d2c6dfc,0x53380d13,0x650a7354,0x766a0abb,0x81c2c92e,0x92722c85,0xa2bfe8a1,0xa81a664b,0xc24b8b70,0xc76c51a3,0xd192e819,0xd6990624,0xf40e3585,0x106aa070,
 0x19a4c116,0x1e376c08,0x2748774c,0x34b0bcb5,0x391c0cb3,0x4ed8aa4a,0x5b9cca4f,0x682e6ff3,0x748f82ee,0x78a5636f,0x84c87814,0x8cc70208,0x90befffa,0xa4506ceb,0xbef9a3f7,0xc67178f2]
def shaS:S8:=⟨0x6a09e667,0xbb67ae85,0x3c6ef372,0xa54ff53a,0x510e527f,0x9b05688c,0x1f83d9ab,0x5be0cd19⟩
theorem shaS_ok:shaS.ok:=by unfold S8.ok shaS;decide
theorem shaK_len:shaK.length=64:=rfl
def wordN (a b c d:Nat):Nat:=((a*256+b)*256+c)*256+d
def wordAt (l:List Nat) (t:Nat):Nat:=wordN (l[4*t]?.getD 0) (l[4*t+1]?.getD 0) (l[4*t+2]?.getD 0) (l[4*t+3]?.getD 0)
def words (l:List Nat) (n:Nat):List Nat:=(List.range n).map (wordAt l)
theorem words_len (l:List Nat) (n:Nat):(words l n).length=n:=by simp [words]
theorem words_succ (l:List Nat) (n:Nat):words l (n+1)=words l n++[wordAt l n]:=by simp [words,List.range_succ]
def blockS (s:S8) (l:List Nat):S8:=addS s (roundsS shaK (schedW (words l 16) 48) s 64)
theorem blockS_ok (s:S8) (l:List Nat):(blockS s l).ok:=addS_ok _ _
def blocksS (s:S8) (l:List Nat):Nat→S8
 | 0=>s
 | k+1=>blockS (blocksS s l k) ((l.drop (64*k)).take 64)
theorem blocksS_ok {s:S8} {l:List Nat} (h:s.ok):∀ k,(blocksS s l k).ok
 | 0=>h
 | _+1=>blockS_ok _ _
def bytesN (n:Nat):Nat→List Nat
 | 0=>[]
 | k+1=>bytesN (n / 256) k++[n % 256]
theorem bytesN_len (n:Nat):∀ k,(bytesN n k).length=k
 | 0=>rfl
 | k+1=>by simp [bytesN,bytesN_len (n / 256) k]
def padN (n:Nat):List Nat:=128::(List.replicate ((119 - n % 64) % 64) 0++bytesN (n*8 % 18446744073709551616) 8)
def shaN (l:List Nat):List Nat:=(blocksS shaS (l++padN l.length) ((l.length+72) / 64)).list.flatMap fun v=>bytesN v 4
theorem flat4_len:∀ l:List Nat,(l.flatMap fun v=>bytesN v 4).length=4*l.length
 | []=>rfl
 | v::l=>by rw [List.flatMap_cons,List.length_append,bytesN_len,flat4_len l,List.length_cons];omega
theorem shaN_len (l:List Nat):(shaN l).length=32:=by unfold shaN;rw [flat4_len];rfl
def taggedN (tag l:List Nat):List Nat:=shaN (shaN tag++l)
theorem taggedN_len (tag l:List Nat):(taggedN tag l).length=32:=shaN_len _
def byts (l:List Nat):List Value:=l.map fun n:Nat=>Value.int .u8 (n:Int)
def u32s (l:List Nat):List Value:=l.map fun n:Nat=>Value.int .u32 (n:Int)
theorem byts_length (l:List Nat):(byts l).length=l.length:=by simp [byts]
theorem u32s_length (l:List Nat):(u32s l).length=l.length:=by simp [u32s]
theorem byts_at {l:List Nat} {k x:Nat} (h:l[k]?=some x):(byts l)[k]?=some (.int .u8 x):=by simp [byts,h]
theorem u32s_at {l:List Nat} {k x:Nat} (h:l[k]?=some x):(u32s l)[k]?=some (.int .u32 x):=by simp [u32s,h]
def okB (l:List Nat):Prop:=∀ x∈l,x<256
theorem or_shift (v a m d:Nat) (h0:v<4294967296) (hm:2 ^ (32 - a)=m) (hd:2 ^ a=d):bits BinOp.or IntKind.u32 ((v:Int) * (m:Nat) % 4294967296) ((v:Int) / (d:Nat))=((rotN v a:Nat):Int):=by
 have e1:((v:Int) * (m:Nat) % 4294967296)=((v*m % 4294967296:Nat):Int):=by simp
 have e2:((v:Int) / (d:Nat))=((v / d:Nat):Int):=by simp
 rw [e1,e2,u32_or_nat _ _ (Nat.mod_lt _ (by decide)) (Nat.lt_of_le_of_lt (Nat.div_le_self _ _) h0)]
 unfold rotN
 rw [hm,hd]
def rotOk (k:Int):Bool:=k == -7||k == -18||k == -17||k == -19||k == -6||k == -11||k == -25||k == -2||k == -13||k == -22
theorem rot_any (v:Nat) (k:Int) (w:World) (h1:v<4294967296) (hk:rotOk k=true) :
  Calls Tryz.prog 174 #[.int .u32 v,.int .i64 k] w (Same (.int .u32 (rotN v (-k).toNat)) w):=by
 simp only [rotOk,Bool.or_eq_true,beq_iff_eq] at hk
 rcases hk with ((((((((rfl | rfl) | rfl) | rfl) | rfl) | rfl) | rfl) | rfl) | rfl) | rfl
 ·have hb:bits BinOp.and .u64 (IntKind.u64.wrap (-7)) 31=25:=by decide
  have ho:=Lib.hid (or_shift v 7 33554432 128 h1 (by decide) (by decide))
  go_enter Tryz.func174,Tryz.ntmps174
  go_wp2
  go_ret
  exact ⟨congrArg (fun n=>Ending.returned (.int .u32 n)) ho.out,rfl⟩
 ·have hb:bits BinOp.and .u64 (IntKind.u64.wrap (-18)) 31=14:=by decide
  have ho:=Lib.hid (or_shift v 18 16384 262144 h1 (by decide) (by decide))
  go_enter Tryz.func174,Tryz.ntmps174
  go_wp2
  go_ret
  exact ⟨congrArg (fun n=>Ending.returned (.int .u32 n)) ho.out,rfl⟩
 ·have hb:bits BinOp.and .u64 (IntKind.u64.wrap (-17)) 31=15:=by decide
  have ho:=Lib.hid (or_shift v 17 32768 131072 h1 (by decide) (by decide))
  go_enter Tryz.func174,Tryz.ntmps174
  go_wp2
  go_ret
  exact ⟨congrArg (fun n=>Ending.returned (.int .u32 n)) ho.out,rfl⟩
 ·have hb:bits BinOp.and .u64 (IntKind.u64.wrap (-19)) 31=13:=by decide
  have ho:=Lib.hid (or_shift v 19 8192 524288 h1 (by decide) (by decide))
  go_enter Tryz.func174,Tryz.ntmps174
  go_wp2
  go_ret
  exact ⟨congrArg (fun n=>Ending.returned (.int .u32 n)) ho.out,rfl⟩
 ·have hb:bits BinOp.and .u64 (IntKind.u64.wrap (-6)) 31=26:=by decide
  have ho:=Lib.hid (or_shift v 6 67108864 64 h1 (by decide) (by decide))
  go_enter Tryz.func174,Tryz.ntmps174
  go_wp2
  go_ret
  exact ⟨congrArg (fun n=>Ending.returned (.int .u32 n)) ho.out,rfl⟩
 ·have hb:bits BinOp.and .u64 (IntKind.u64.wrap (-11)) 31=21:=by decide
  have ho:=Lib.hid (or_shift v 11 2097152 2048 h1 (by decide) (by decide))
  go_enter Tryz.func174,Tryz.ntmps174
  go_wp2
  go_ret
  exact ⟨congrArg (fun n=>Ending.returned (.int .u32 n)) ho.out,rfl⟩
 ·have hb:bits BinOp.and .u64 (IntKind.u64.wrap (-25)) 31=7:=by decide
  have ho:=Lib.hid (or_shift v 25 128 33554432 h1 (by decide) (by decide))
  go_enter Tryz.func174,Tryz.ntmps174
  go_wp2
  go_ret
  exact ⟨congrArg (fun n=>Ending.returned (.int .u32 n)) ho.out,rfl⟩
 ·have hb:bits BinOp.and .u64 (IntKind.u64.wrap (-2)) 31=30:=by decide
  have ho:=Lib.hid (or_shift v 2 1073741824 4 h1 (by decide) (by decide))
  go_enter Tryz.func174,Tryz.ntmps174
  go_wp2
  go_ret
  exact ⟨congrArg (fun n=>Ending.returned (.int .u32 n)) ho.out,rfl⟩
 ·have hb:bits BinOp.and .u64 (IntKind.u64.wrap (-13)) 31=19:=by decide
  have ho:=Lib.hid (or_shift v 13 524288 8192 h1 (by decide) (by decide))
  go_enter Tryz.func174,Tryz.ntmps174
  go_wp2
  go_ret
  exact ⟨congrArg (fun n=>Ending.returned (.int .u32 n)) ho.out,rfl⟩
 ·have hb:bits BinOp.and .u64 (IntKind.u64.wrap (-22)) 31=10:=by decide
  have ho:=Lib.hid (or_shift v 22 1024 4194304 h1 (by decide) (by decide))
  go_enter Tryz.func174,Tryz.ntmps174
  go_wp2
  go_ret
  exact ⟨congrArg (fun n=>Ending.returned (.int .u32 n)) ho.out,rfl⟩
theorem xor_nat (a b:Nat) (ha:a<4294967296) (hb:b<4294967296):bits BinOp.xor IntKind.u32 (a:Int) (b:Int)=((a ^^^ b:Nat):Int):=u32_xor_nat a b ha hb
theorem rotated_e (v:Nat) (w:World) (h1:v<4294967296):Calls Tryz.prog 175 #[.int .u32 v,.int .i64 6,.int .i64 11,.int .i64 25] w (Same (.int .u32 (rot3 v 6 11 25:Nat)) w):=by
 have e1:=rotN_lt (a:=6) h1
 have e2:=rotN_lt (a:=11) h1
 have e3:=rotN_lt (a:=25) h1
 have hx:=Lib.hid (xor_nat _ _ e1 e2)
 have hy:=Lib.hid (xor_nat _ _ (xor_lt e1 e2) e3)
 go_enter Tryz.func175,Tryz.ntmps175
 go_wp2_with fail
 refine (rot_any v (-6) _ h1 (by decide)).mono ?_
 rintro e w' ⟨rfl,rfl⟩
 rw [show (-(-6:Int)).toNat=6 from rfl]
 go_wp2_with fail
 refine (rot_any v (-11) _ h1 (by decide)).mono ?_
 rintro e w' ⟨rfl,rfl⟩
 rw [show (-(-11:Int)).toNat=11 from rfl]
 go_wp2_with fail
 refine (rot_any v (-25) _ h1 (by decide)).mono ?_
 rintro e w' ⟨rfl,rfl⟩
 rw [show (-(-25:Int)).toNat=25 from rfl]
 go_wp2_with fail
 rw [hx.out,hy.out]
 go_ret
 exact ⟨rfl,rfl⟩
theorem rotated_a (v:Nat) (w:World) (h1:v<4294967296):Calls Tryz.prog 175 #[.int .u32 v,.int .i64 2,.int .i64 13,.int .i64 22] w (Same (.int .u32 (rot3 v 2 13 22:Nat)) w):=by
 have e1:=rotN_lt (a:=2) h1
 have e2:=rotN_lt (a:=13) h1
 have e3:=rotN_lt (a:=22) h1
 have hx:=Lib.hid (xor_nat _ _ e1 e2)
 have hy:=Lib.hid (xor_nat _ _ (xor_lt e1 e2) e3)
 go_enter Tryz.func175,Tryz.ntmps175
 go_wp2_with fail
 refine (rot_any v (-2) _ h1 (by decide)).mono ?_
 rintro e w' ⟨rfl,rfl⟩
 rw [show (-(-2:Int)).toNat=2 from rfl]
 go_wp2_with fail
 refine (rot_any v (-13) _ h1 (by decide)).mono ?_
 rintro e w' ⟨rfl,rfl⟩
 rw [show (-(-13:Int)).toNat=13 from rfl]
 go_wp2_with fail
 refine (rot_any v (-22) _ h1 (by decide)).mono ?_
 rintro e w' ⟨rfl,rfl⟩
 rw [show (-(-22:Int)).toNat=22 from rfl]
 go_wp2_with fail
 rw [hx.out,hy.out]
 go_ret
 exact ⟨rfl,rfl⟩
def accB (l:List Nat):Nat→Nat
 | 0=>0
 | k+1=>accB l k*256+l[k]?.getD 0
theorem accB_lt {l:List Nat} (h:okB l):∀ k,accB l k<256 ^ k
 | 0=>by simp [accB]
 | k+1=>by
  have h1:=accB_lt h k
  have h2:l[k]?.getD 0<256:=by
   cases hx:l[k]? with
   | none=>decide
   | some x=>exact h x (List.mem_of_getElem? hx)
  show accB l k*256+l[k]?.getD 0<_
  rw [Nat.pow_succ]
  omega
theorem join_byte {n c:Nat} (hn:n<16777216) (hc:c<256):bits BinOp.or IntKind.u32 ((n:Int)*256) (c:Int)=((n*256+c:Nat):Int):=by
 have e1:((n:Int)*256)=((n*256:Nat):Int):=by omega
 rw [e1,u32_or_nat _ _ (by omega) (by omega)]
 congr 1
 have:=Nat.shiftLeft_add_eq_or_of_lt (b:=c) (i:=8) (by omega) n
 rw [Nat.shiftLeft_eq] at this
 exact this.symm
theorem Byt_at {w:World} {B n k:Nat} {A:Option Addr} {l:List Nat} {x:Nat} (h:Rd w B 1 A n (byts l)) (hn:k<n) (hx:l[k]?=some x) :
  ∃ b off,A=some ⟨b,off,none⟩∧b<B∧w.cell? ⟨b,off+k,none⟩=some (.int .u8 x):=by
 obtain ⟨b,off,hA,hb,hc⟩:=h.2 (by omega)
 exact ⟨b,off,hA,hb,hc _ _ (byts_at hx)⟩
theorem word_any (A:Option Addr) (n c:Nat) (l:List Nat) (w:World) (hA:Rd w w.heap.size 1 A n (byts l)) (ho:okB l) (hn:4≤n) (hc:n≤c) (hc2:c≤9223372036854775807) :
  Calls Tryz.prog 173 #[.slice A n c] w (Same (.int .u32 (accB l 4:Nat)) w):=by
 have hl:Hid (l.length=n):=by have:=hA.1;rw [byts_length,Nat.mul_one] at this;exact this
 go_enter Tryz.func173,Tryz.ntmps173
 go_wp2
 go_loop [2,8] (fun s i=>∃ k:Nat,k≤4∧i = .int .i64 k∧s = .int .u32 (accB l k:Nat)) (fun _ i=>4 - (intOf i).toNat)
 case atStart=>exact ⟨0,Nat.zero_le _,rfl,rfl⟩
 case round =>
  obtain ⟨k,hkn,rfl,rfl⟩:=hrel
  by_cases hlt:k<4
  ·obtain ⟨x,hx⟩:∃ x,Hid (l[k]?=some x):=⟨_,Lib.hid (List.getElem?_eq_getElem (by rw [hl.out];omega))⟩
   obtain ⟨b,off,rfl,hbb,c0⟩:=Byt_at hA (show k<n by omega) hx.out
   have hx8:x<256:=ho x (List.mem_of_getElem? hx.out)
   have ha:accB l k<16777216:=Nat.lt_of_lt_of_le (accB_lt ho k) (by
    have:256 ^ k≤256 ^ 3:=Nat.pow_le_pow_right (by omega) (by omega)
    exact this)
   have hs:Hid (bits BinOp.or IntKind.u32 ((accB l k:Int)*256) (x:Int)=((accB l (k+1):Nat):Int)):=by
    show _=_
    rw [join_byte ha hx8]
    show _=((accB l k*256+l[k]?.getD 0:Nat):Int)
    rw [hx.out];rfl
   go_wp2
   exact ⟨⟨k+1,by omega,by go_num,by rw [hs.out]⟩,by simp [intOf];omega⟩
  ·obtain rfl:k=4:=by omega
   go_wp2
   go_ret
   exact ⟨rfl,rfl⟩
theorem grownBy_trans {a b c:World} {row:Option Nat} (h:a.grownBy b row) (k:b.grownBy c row):a.grownBy c row :=
 ⟨k.1.trans h.1,k.2.trans h.2,k.3.trans h.3,Nat.le_trans h.size k.size,fun i hi hr=>(k.block i (Nat.lt_of_lt_of_le hi h.size) hr).trans (h.block i hi hr)⟩
theorem grownBy_setCell_at (W:World) (b i:Nat) (v:Value):W.grownBy (W.setCell ⟨b,i,none⟩ v) (some b) :=
 ⟨rfl,rfl,rfl,by simp [World.setCell],fun k _ hk=>Below.heap_setCell _ _ _ k (fun e=>hk (by rw [e]))⟩
theorem bytesN_cons (n:Nat):∀ j,bytesN n (j+1)=(n / 256 ^ j % 256)::bytesN n j
 | 0=>by simp [bytesN]
 | j+1=>by
  have h:=bytesN_cons (n / 256) j
  show bytesN (n / 256) (j+1)++[n % 256]=_::(bytesN (n / 256) j++[n % 256])
  rw [h,Nat.div_div_eq_div_mul,Nat.pow_succ,Nat.mul_comm 256]
  rfl
theorem putRow_step {pre post:List Value} {n k i:Nat} (hi:i<k) (old:List Value) (ho:old.length=k) :
  ((pre++(old.take (k - i)++byts (bytesN n i))++post).set (pre.length+(k - 1 - i)) (.int .u8 ((n / 256 ^ i % 256:Nat):Int)))=pre++(old.take (k - (i+1))++byts (bytesN n (i+1)))++post:=by
 have e1:k - i=(k - (i+1))+1:=by omega
 have e2:old.take (k - i)=old.take (k - (i+1))++[old[k - (i+1)]'(by omega)]:=by
  rw [e1,List.take_succ_eq_append_getElem]
 have e3:(old.take (k - (i+1))).length=k - 1 - i:=by rw [List.length_take];omega
 have e4:byts (bytesN n (i+1)) = .int .u8 ((n / 256 ^ i % 256:Nat):Int)::byts (bytesN n i):=by rw [bytesN_cons];rfl
 rw [e2,e4]
 generalize old.take (k - (i+1))=q at *
 generalize old[k - (i+1)]'(by omega)=x at *
 generalize byts (bytesN n i)=r at *
 subst_vars
 have:pre++(q++[x]++r)++post=(pre++q)++(x::(r++post)):=by simp
 rw [this,List.set_append_right _ _ (by simp;omega)]
 have:pre.length+(old.length - 1 - i) - (pre++q).length=0:=by simp;omega
 rw [this]
 simp
theorem put_any (b off k c n:Nat) (t:TypeId) (pre old post:List Value) (w:World) (hB:Blk w b t (pre++old++post).toArray) (hpre:pre.length=off) (hold:old.length=k) (hk:k≤8) :
  Calls Tryz.prog 152 #[.slice (some ⟨b,off,none⟩) k c,.int .u64 n] w fun r w'=>r = .returned (.tuple #[])∧w.grownBy w' (some b)∧Blk w' b t (pre++byts (bytesN n k)++post).toArray:=by
 go_enter Tryz.func152,Tryz.ntmps152
 go_wp2
 go_loopw [7] (fun i wr=>∃ j:Nat,j≤k∧i = .int .i64 j∧w.grownBy wr (some b)∧Blk wr b t (pre++(old.take (k - j)++byts (bytesN n j))++post).toArray) (fun i _=>k - (intOf i).toNat)
 case atStart=>exact ⟨0,Nat.zero_le _,rfl,World.grownBy.refl _ _,by simp [bytesN,byts,←hold];simpa using hB⟩
 case round =>
  obtain ⟨j,hj,rfl,hg,hBr⟩:=hrel
  by_cases hlt:j<k
  ·have hcell:∃ v,wr.cell? ⟨b,off+(k - 1 - j),none⟩=some v:=by
    rw [hBr.cell]
    simp only [List.getElem?_toArray]
    exact ⟨_,List.getElem?_eq_getElem (by simp only [List.length_append,List.length_take,byts_length,bytesN_len];omega)⟩
   obtain ⟨v,hv⟩:=hcell
   have hz:=hBr.frozen (off+(k - 1 - j))
   have hb2:=Lib.hid (hBr.set_ (off+(k - 1 - j)) (.int .u8 ((n / 256 ^ j % 256:Nat):Int)))
   have hg2:=Lib.hid (grownBy_setCell_at wr b (off+(k - 1 - j)) (.int .u8 ((n / 256 ^ j % 256:Nat):Int)))
   have hn2:Hid (((n:Int) / 2 ^ (8*j) % 256)=((n / 256 ^ j % 256:Nat):Int)):=by
    show _=_
    rw [show (256:Nat)=2 ^ 8 by decide,←Nat.pow_mul]
    simp
   have hst:=Lib.hid (putRow_step (pre:=pre) (post:=post) (n:=n) hlt old hold)
   go_wp2
   rw [hn2.out]
   refine ⟨⟨j+1,by omega,by go_num,grownBy_trans hg hg2.out,?_⟩,by simp [intOf];omega⟩
   have h:=hb2.out
   rw [List.setIfInBounds_toArray,←hpre,hst.out] at h
   rw [←hpre]
   exact h
  ·obtain rfl:j=k:=by omega
   go_wp2
   go_end0
   exact ⟨rfl,hg,by simpa using hBr⟩
end Go.Proofs.YtoeobcmmafncmaaGreatDoor
