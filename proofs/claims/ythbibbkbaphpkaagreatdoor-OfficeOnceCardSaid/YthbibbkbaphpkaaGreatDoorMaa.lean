/- Words for memory that all walks of this seat use: a slice that reads as a list of cells, a block that is known whole; posts behind definitions. -/
import Derived.Test.YthbibbkbaphpkaaGreatDoorRows
import Derived.WalkKit
import Derived.WalkSpells
import Derived.WalkLawsBesides
import Derived.Lib.Hide
import Derived.Deep.QuietTactic
import Derived.BigQuiet
import Derived.Laws.BitsAllLaws
import Derived.WalkSmall
import Derived.Outline
import Derived.Deep.RegionWith
import Derived.Deep.DeepCutAuto
import Derived.StillTailTactics
import Derived.IntWalk
import Derived.Laws.CopyOwn
import Derived.ProofKit
import Derived.OpenShut
import Derived.ShutString
import Derived.ChangeOld
import Derived.Below
import Derived.Deep.Slices
import Derived.Deep.Fields
set_option maxHeartbeats 16000000
set_option maxRecDepth 1000000
namespace Go.Proofs.YthbibbkbaphpkaaGreatDoor
open _root_.Go.Proofs.Tryz
abbrev aab:=@Lib.hid
abbrev aac:=@List.getElem?_eq_getElem
abbrev aad:=@Nat.le_refl
abbrev aae:=@List.size_toArray
abbrev aaf:=@List.setIfInBounds_toArray
abbrev aag:=@List.getElem?_eq_some_iff
abbrev aah:=@List.set_cons_succ
abbrev aai:=@List.set_cons_zero
abbrev aaj:=@Nat.le_trans
abbrev aak:=@List.map_nil
abbrev aal:=@Bool.and_eq_true
abbrev aam:=@List.mem_of_getElem?
abbrev aan:=@List.length_append
abbrev aao:=@Nat.zero_le
abbrev aap:=@List.getElem?_cons_zero
abbrev aaq:=@List.mem_cons
abbrev aar:=@List.getElem?_cons_succ
abbrev aas:=@List.length_cons
abbrev aat:=@List.map_cons
abbrev aau:=@List.all_eq_true
abbrev aav:=@List.length_take
abbrev aaw:=@List.not_mem_nil
abbrev aax:=@Nat.zero_add
abbrev aay:=@Nat.add_assoc
abbrev aaz:=@List.getElem?_append_right
abbrev aaA:=@Nat.mul_one
abbrev aaB:=@List.take_succ_eq_append_getElem
abbrev aaC:=@Nat.mod_lt
abbrev aaD:=@List.getElem?_map
abbrev aaE:=@List.mem_range
abbrev aaF:=@List.flatMap_cons
abbrev aaG:=@List.getElem?_toArray
abbrev aaH:=@List.take_of_length_le
abbrev aaI:=@Array.getElem?_eq_some_iff
abbrev aaJ:=@List.nil_append
abbrev aaK:=@List.mem_map
abbrev aaL:=@List.mem_append
abbrev aaM:=@Bool.true_and
abbrev aaN:=@List.cons_append
abbrev aaO:=@List.getElem?_append_left
abbrev aaP:=@List.flatMap_append
abbrev aaQ:=@List.length_map
abbrev aaR:=@Nat.mod_eq_of_lt
abbrev aaS:=@Nat.lt_of_lt_of_le
abbrev aaT:=@List.map_append
abbrev aaU:=@List.getD_eq_getElem?_getD
abbrev aaV:=@Array.replicate_succ
abbrev aaW:=@Array.replicate_zero
abbrev aaX:=@List.push_toArray
abbrev aaY:=@List.append_toArray
abbrev aaZ:=@List.append_assoc
abbrev aa0:=@Nat.lt_or_ge
abbrev aa1:=@List.length_drop
abbrev aa2:=@List.getElem_toArray
abbrev aa3:=@List.drop_zero
abbrev aa4:=@List.getElem_cons_succ
abbrev aa5:=@List.getElem_cons_zero
abbrev aa6:=@List.getElem?_take
abbrev aa7:=@Nat.eq_zero_or_pos
abbrev aa8:=@List.mem_cons_of_mem
abbrev aa9:=@Nat.add_zero
abbrev aba:=@Int.toNat_natCast
abbrev abb:=@Bool.eq_iff_iff
abbrev abd:=@Array.getElem?_eq_getElem
abbrev abe:=@List.append_nil
abbrev abf:=@Nat.pow_succ
abbrev abg:=@Nat.mul_comm
abbrev abh:=@Nat.succ_mul
abbrev abj:=@List.take_zero
abbrev abk:=@List.take_length
abbrev abl:=@List.drop_eq_nil_of_le
abbrev abm:=@List.take_append_of_le_length
abbrev abn:=@List.all_eq_false
abbrev abo:=@List.length_eq_zero_iff
abbrev abp:=@List.pairwise_iff_getElem
abbrev abq:=@List.take_succ_cons
abbrev abr:=@List.eq_nil_of_length_eq_zero
abbrev abt:=@Bool.and_eq_false_iff
abbrev abu:=@Array.getD_eq_getD_getElem?
abbrev abv:=@List.mem_of_mem_take
abbrev abw:=@List.set_append_right
abbrev abx:=@List.drop_succ_cons
abbrev aby:=@Nat.dvd_of_mod_eq_zero
abbrev abz:=@Int.emod_emod_of_dvd
abbrev abA:=@List.getElem?_eq_none
abbrev abB:=@Int.eq_ofNat_of_zero_le
abbrev abC:=@Array.all_eq_true_iff_forall_mem
section
open Go.RowKit
def Rd (w:World) (B sz:Nat) (A:Option Addr) (n:Nat) (xs:List Value):Prop :=
 xs.length=n*sz∧(0<n→∃ b off,A=some ⟨b,off,none⟩∧b<B∧∀ j u,xs[j]?=some u→w.cell? ⟨b,off+j,none⟩=some u)
section
variable {w w':World} {B B' sz n:Nat} {A:Option Addr} {xs:List Value}
theorem Rd.nil_:Rd w B sz A 0 []:=⟨by simp,fun h=>absurd h (by omega)⟩
theorem Rd.keep (h:Rd w B sz A n xs) (hk:∀ p:Addr,p.block<B→w'.cell? p=w.cell? p):Rd w' B sz A n xs :=
 ⟨h.1,fun hn=>by
  obtain ⟨b,off,e,hb,hc⟩:=h.2 hn
  exact ⟨b,off,e,hb,fun j u hu=>(hk _ hb).trans (hc j u hu)⟩⟩
theorem Rd.more (h:Rd w B sz A n xs) (hB:B≤B'):Rd w B' sz A n xs :=
 ⟨h.1,fun hn=>by
  obtain ⟨b,off,e,hb,hc⟩:=h.2 hn
  exact ⟨b,off,e,by omega,hc⟩⟩
theorem Rd.below (h:Rd w B sz A n xs) (hb:Below B w w'):Rd w' B sz A n xs:=h.keep fun _ hp=>hb.cell hp
theorem Rd.alloc (h:Rd w B sz A n xs) (hB:B≤w.heap.size) (o:Obj):Rd (w.alloc o) B sz A n xs :=
 h.below ((Below.refl _ _).alloc hB o)
end
def Blk (w:World) (g:Nat) (t:TypeId) (cs:Array Value):Prop:=w.heap[g]?=some (.cells cs t (0,0))
section
variable {w w':World} {g:Nat} {t:TypeId} {cs:Array Value}
theorem Blk.lt (h:Blk w g t cs):g<w.heap.size:=by
 rcases aa0 g w.heap.size with hlt | hge
 ·exact hlt
 ·unfold Blk at h;rw [Array.getElem?_eq_none hge] at h;cases h
theorem Blk.cell (h:Blk w g t cs) (i:Nat):w.cell? ⟨g,i,none⟩=cs[i]?:=by
 unfold Blk at h;simp [World.cell?,h]
theorem Blk.frozen (h:Blk w g t cs) (i:Nat):w.frozen? ⟨g,i,none⟩=false:=by
 unfold Blk at h;simp [World.frozen?,h]
theorem Blk.new (w:World) (t:TypeId) (cs:Array Value) (b:Nat) (hb:b=w.heap.size):Blk (w.alloc (.cells cs t)) b t cs:=by
 subst hb;show (w.heap.push _)[w.heap.size]?=_
 simp
theorem Blk.alloc (h:Blk w g t cs) (o:Obj):Blk (w.alloc o) g t cs:=(Below.heap_alloc w o g h.lt).trans h
theorem Blk.below {B:Nat} (h:Blk w g t cs) (hb:Below B w w') (hg:g<B):Blk w' g t cs:=(hb.block g hg).trans h
theorem Blk.far (h:Blk w g t cs) {p:Addr} (hp:g≠p.block) (u:Value):Blk (w.setCell p u) g t cs:=(Below.heap_setCell w p u g hp).trans h
theorem Blk.set_ (h:Blk w g t cs) (i:Nat) (u:Value):Blk (w.setCell ⟨g,i,none⟩ u) g t (cs.setIfInBounds i u):=by
 unfold Blk at h ⊢;simp [World.setCell,Array.getElem?_modify,h]
end
theorem Rd.new (w:World) (cs:List Value) (t:TypeId) (sz n b:Nat) (hb:b=w.heap.size) (h:cs.length=n*sz) :
  Rd (w.alloc (.cells cs.toArray t)) (w.alloc (.cells cs.toArray t)).heap.size sz (some ⟨b,0,none⟩) n cs:=by
 subst hb
 exact ⟨h,fun _=>⟨w.heap.size,0,rfl,by simp,fun j u hu=>by
  rw [aax,(Blk.new w t cs.toArray _ rfl).cell j];simpa using hu⟩⟩
theorem aj (w:World):Below w.heap.size w w:=Below.refl _ _
theorem bAl {a w:World} (h:Below a.heap.size a w) (o:Obj):Below a.heap.size a (w.alloc o):=h.alloc h.size o
theorem ah {a w w':World} (h:Below a.heap.size a w) (k:Below w.heap.size w w'):Below a.heap.size a w':=h.trans (k.mono h.size)
theorem zQ7 {a w:World} (h:Below a.heap.size a w) {p:Addr} (hp:a.heap.size≤p.block) (u:Value):Below a.heap.size a (w.setCell p u):=h.setCell hp u
theorem o8 {a w:World} (h:Below a.heap.size a w) (n:Nat):Below a.heap.size a (w.drewN n):=⟨h.os,h.tape,h.output,h.size,h.block⟩
theorem bDr {a w:World} (h:Below a.heap.size a w):Below a.heap.size a w.drew:=h.drew
def Ret (v:Value) (w:World) (r:Ending) (w':World):Prop:=r = .returned v∧Below w.heap.size w w'
def Same (v:Value) (w:World) (r:Ending) (w':World):Prop:=r = .returned v∧w=w'
def Pan (T:TypeId) (e:Int) (w:World) (r:Ending) (w':World):Prop :=
 r = .panicked [{ v := .iface T (.int .i64 e),recovered:=false }]∧Below w.heap.size w w'
theorem aI {a b:Bool} (h:a=b):Ending.returned (.bool a) = .returned (.bool b):=by rw [h]
theorem eX {k:IntKind} {a b:Int} (h:a=b):Ending.returned (.int k a) = .returned (.int k b):=by rw [h]
structure Later where
 blocks:Array Obj
 drawn:Nat
instance later_there:Inhabited Later:=⟨⟨#[],0⟩⟩
def later (w:World) (x:Later):World:={ w with heap:=w.heap++x.blocks,drawn:=x.drawn }
theorem iQ (w:World) (x:Later):Below w.heap.size w (later w x) :=
 ⟨rfl,rfl,rfl,by simp [later],fun k hk=>by simp [later,Array.getElem?_append,hk]⟩
theorem Qh {w w':World} (h:Below w.heap.size w w'):∃ x:Later,w'=later w x:=by
 refine ⟨⟨w'.heap.extract w.heap.size,w'.drawn⟩,?_⟩
 have he:w'.heap=w.heap++w'.heap.extract w.heap.size:=by
  apply Array.ext_getElem?;intro i;rw [Array.getElem?_append]
  split
  ·rename_i hi;exact h.block i hi
  ·rename_i hi
   have hs:=h.size;rw [Array.getElem?_extract];by_cases hl:i<w'.heap.size
   ·rw [if_pos (by omega)]
    congr 1;omega
   ·rw [if_neg (by omega),Array.getElem?_eq_none (by omega)]
 cases w' with
 | mk heap tape drawn os output =>
  have h1:=h.os;have h2:=h.tape;have h3:=h.output;simp only at h1 h2 h3 he;subst h1;subst h2;subst h3;simp only [later,World.mk.injEq,and_true];exact he
theorem cell_later (w:World) (x:Later) (p:Addr) (h:p.block<w.heap.size):(later w x).cell? p=w.cell? p:=(iQ w x).cell h
theorem EK (w:World) (x:Later) (p:Addr) (h:p.block<w.heap.size):(later w x).frozen? p=w.frozen? p:=(iQ w x).frozen h
theorem Gj (w:World) (x:Later) (b:Nat) (h:b<w.heap.size):(later w x).heap[b]?=w.heap[b]?:=(iQ w x).block b h
attribute [go_sem] cell_later EK Gj
theorem Rd.later {w:World} {B sz n:Nat} {A:Option Addr} {xs:List Value} (h:Rd w B sz A n xs) (hB:B≤w.heap.size) (x:Later):Rd (later w x) B sz A n xs:=h.below ((iQ w x).mono hB)
theorem mF {P:Program} {id:Nat} {Q:Exit→Act→World→Prop} {a:Act} {w:World} {l:List Oper} (w0:World) (h0:Below w0.heap.size w0 w) (hm:P.follows .mixedOrders=true) (hB:Region.lexB .any l.toArray=true)
  (h:wpQuiet P l.toArray (fun w'=>∃ x:Later,w'=Proofs.YthbibbkbaphpkaaGreatDoor.later w0 x) (fun a'=>∀ w',(∃ x:Later,w'=Proofs.YthbibbkbaphpkaaGreatDoor.later w0 x)→Q .normal a' w') l a):(Code.region id l.toArray true).wp P Q a w :=
 wp_region_quiet (C:=fun w'=>∃ x:Later,w'=Proofs.YthbibbkbaphpkaaGreatDoor.later w0 x) hm hB (Qh (Below.drew h0)) (by simpa using h)
theorem Ak {P:Program} {f:FuncId} {args:Array Value} {v:Value} {w:World} {x:Later} (h:Calls P f args (later w x) (Same v (later w x))) :
  Calls P f args (later w x) fun e w''=>e = .returned v∧∃ y:Later,w''=later w y :=
 h.mono fun _ _ ⟨he,hb⟩=>⟨he,x,hb.symm⟩
theorem Rd.cut {w:World} {B sz n b off:Nat} {xs:List Value} (h:Rd w B sz (some ⟨b,off,none⟩) n xs) (k:Nat) (hk:k≤n):Rd w B sz (some ⟨b,off+k*sz,none⟩) (n - k) (xs.drop (k*sz)):=by
 refine ⟨by rw [aa1,h.1,Nat.sub_mul],fun hn=>?_⟩;obtain ⟨b',off',e,hb,hc⟩:=h.2 (by omega);injection e with e
 injection e with e1 e2
 subst e1;subst e2;refine ⟨_,_,rfl,hb,fun j u hu=>?_⟩;rw [List.getElem?_drop] at hu
 have:=hc _ u hu
 rwa [←aay] at this
def ints (l:List Int):List Value:=l.map (Value.int .i64)
theorem lU (l:List Int):(ints l).length=l.length:=by simp [ints]
theorem ints_at {l:List Int} {k:Nat} {x:Int} (h:l[k]?=some x):(ints l)[k]?=some (.int .i64 x):=by simp [ints,h]
theorem jq {w:World} {B n k:Nat} {A:Option Addr} {l:List Int} {x:Int} (h:Rd w B 1 A n (ints l)) (hn:k<n) (hx:l[k]?=some x) :
  ∃ b off,A=some ⟨b,off,none⟩∧b<B∧w.cell? ⟨b,off+k,none⟩=some (.int .i64 x):=by
 obtain ⟨b,off,hA,hb,hc⟩:=h.2 (by omega);exact ⟨b,off,hA,hb,hc _ _ (ints_at hx)⟩
def XI (l:List Int) (e:Int) (w:World) (r:Ending) (w':World):Prop :=
 ∃ A c,r = .returned (.tuple #[.slice A l.length c,.int .i64 e])∧Below w.heap.size w w'∧Rd w' w'.heap.size 1 A l.length (ints l)
theorem Rd.of_own {w:World} {base:Nat} {e:TypeId} {sz n:Nat} {v:Value} {xs:List Value} (h:w.ownsRow base e sz v n xs):∃ A c,v = .slice A n c∧Rd w w.heap.size sz A n xs:=by
 rcases h.2 with ⟨rfl,rfl⟩ | ⟨g,cap,cur,rfl,_,hg,hnc,_,hsz,htk⟩
 ·exact ⟨none,0,rfl,h.1,fun hn=>absurd hn (by omega)⟩
 ·refine ⟨_,_,rfl,h.1,fun _=>⟨g,0,rfl,Blk.lt hg,fun j u hu=>?_⟩⟩
  rw [aax,Blk.cell hg];rw [←htk,aa6] at hu
  split at hu
  ·simpa using hu
  ·cases hu
theorem aC {w w':World} {base:Nat} {e:TypeId} {sz n:Nat} {v:Value} {xs:List Value} (h:w.ownsRow base e sz v n xs) (hb:Below w.heap.size w w'):w'.ownsRow base e sz v n xs:=by
 obtain ⟨h1,h2⟩:=h;refine ⟨h1,?_⟩;rcases h2 with h2 | ⟨g,cap,cur,hv,hg,hh,r⟩
 ·exact .inl h2
 ·exact .inr ⟨g,cap,cur,hv,hg,(hb.block g (Blk.lt hh)).trans hh,r⟩
theorem oC {α:Type} {f:α→List Value} {sz:Nat} (hf:∀ x,(f x).length=sz):∀ (l:List α) (i j:Nat) (x:α),l[i]?=some x→j<sz →
  (l.flatMap f)[i*sz+j]?=(f x)[j]?
 | [],i,j,x,h,_=>by simp at h
 | y::l,0,j,x,h,hj=>by
  simp only [aap,Option.some.injEq] at h;subst h;rw [aaF,Nat.zero_mul,aax,aaO (by rw [hf];exact hj)]
 | y::l,i+1,j,x,h,hj=>by
  simp only [aar] at h;rw [aaF,aaz (by rw [hf,abh];omega),hf]
  have:(i+1)*sz+j - sz=i*sz+j:=by rw [abh];omega
  rw [this];exact oC hf l i j x h hj
end
def bef:List Nat→List Nat→Bool
 | a::x,b::y=>if a=b then bef x y else decide (a<b)
 | _,_=>false
theorem MB:∀ x:List Nat,bef x x=false
 | []=>rfl
 | a::x=>by
  show (if a=a then bef x x else decide (a<a))=false;rw [if_pos rfl,MB x]
theorem ng:∀ x y z:List Nat,bef x y=true→bef y z=true→bef x z=true
 | [],_,_,h,_=>by simp [bef] at h
 | _::_,[],_,h,_=>by simp [bef] at h
 | _::_,_::_,[],_,h=>by simp [bef] at h
 | a::x,b::y,c::z,h1,h2=>by
  simp only [bef] at h1 h2 ⊢
  split at h1 <;> split at h2 <;> try simp only [decide_eq_true_eq] at h1 h2
  ·subst_vars;rw [if_pos rfl];exact ng x y z h1 h2
  ·subst_vars;rw [if_neg (by assumption)];exact decide_eq_true h2
  ·subst_vars;rw [if_neg (by assumption)];exact decide_eq_true h1
  ·rw [if_neg (by omega)];exact decide_eq_true (by omega)
theorem MC:∀ x y:List Nat,x.length=y.length→bef x y=false→x≠y→bef y x=true
 | [],[],_,_,h=>absurd rfl h
 | [],_::_,h,_,_=>by simp at h
 | _::_,[],h,_,_=>by simp at h
 | a::x,b::y,hl,h,hn=>by
  simp only [bef] at h ⊢
  split at h
  ·rename_i he
   subst he;rw [if_pos rfl];exact MC x y (by simpa using hl) h (fun e=>hn (by rw [e]))
  ·simp only [decide_eq_false_iff_not] at h
   rw [if_neg (by omega)];exact decide_eq_true (by omega)
def xM (l:List (List Nat)):Prop:=l.Pairwise (fun x y=>bef x y=true)
def jU (d:List Nat) (l:List (List Nat)):Nat:=(l.takeWhile (fun x=>bef x d)).length
theorem EL (d:List Nat) (l:List (List Nat)):jU d l≤l.length:=(List.takeWhile_sublist _).length_le
theorem zQ {d:List Nat} : ∀ {l:List (List Nat)} {i:Nat} {x:List Nat},i<jU d l→l[i]?=some x→bef x d=true
 | [],i,x,h,_=>by simp [jU] at h
 | y::l,i,x,h,hx=>by
  unfold jU at h;rw [List.takeWhile_cons] at h
  split at h
  ·rename_i hy
   cases i with
   | zero=>simp only [aap,Option.some.injEq] at hx;subst hx;exact hy
   | succ i=>exact zQ (l:=l) (i:=i) (by unfold jU;simpa using h) (by simpa using hx)
  ·simp at h
theorem zS {d:List Nat} : ∀ {l:List (List Nat)} {i:Nat} {x:List Nat},xM l→jU d l≤i→l[i]?=some x→bef x d=false
 | [],i,x,_,_,h=>by simp at h
 | y::l,i,x,hr,h,hx=>by
  obtain ⟨hy,hr⟩:=List.pairwise_cons.1 hr;unfold jU at h;rw [List.takeWhile_cons] at h
  split at h
  ·cases i with
   | zero=>simp at h
   | succ i=>exact zS (l:=l) (i:=i) hr (by unfold jU;simpa using h) (by simpa using hx)
  ·rename_i hyd
   cases i with
   | zero=>simp only [aap,Option.some.injEq] at hx;subst hx;simpa using hyd
   | succ i =>
    have hm:=hy x (aam (by simpa using hx));cases hb:bef x d with
    | false=>rfl
    | true=>exact absurd (ng _ _ _ hm hb) hyd
theorem Ur {d:List Nat} {l:List (List Nat)} {k:Nat} (hr:xM l) (hk:k≤l.length) (hlo:∀ i x,i<k→l[i]?=some x→bef x d=true) (hhi:∀ i x,k≤i→l[i]?=some x→bef x d=false):k=jU d l:=by
 rcases Nat.lt_trichotomy k (jU d l) with h | h | h
 ·have hl:k<l.length:=aaS h (EL d l)
  have hx:=aac hl
  have:=zQ h hx
  rw [hhi k _ (aad _) hx] at this;cases this
 ·exact h
 ·have hl:jU d l<l.length:=by omega
  have hx:=aac hl
  have:=zS hr (aad _) hx
  rw [hlo _ _ h hx] at this;cases this
theorem Us {d:List Nat} {l:List (List Nat)} (hr:xM l):d∈l↔l[jU d l]?=some d:=by
 constructor
 ·intro h
  obtain ⟨i,hi,rfl⟩:=List.mem_iff_getElem.1 h;have hx:=aac hi;rcases Nat.lt_trichotomy i (jU l[i] l) with h1 | h1 | h1
  ·have:=zQ h1 hx
   rw [MB] at this;cases this
  ·rw [←h1,hx]
  ·have hl:jU l[i] l<l.length:=by omega
   have h2:=zS hr (aad _) (aac hl);have h3:bef (l[jU l[i] l]) l[i]=true:=abp.1 hr _ _ hl hi h1;rw [h3] at h2;cases h2
 ·exact fun h=>aam h
def vH (d:List Nat) (l:List (List Nat)):List (List Nat):=l.take (jU d l)++d::l.drop (jU d l)
theorem yJ (d:List Nat) (l:List (List Nat)):(vH d l).length=l.length+1:=by
 have:=EL d l
 unfold vH;rw [aan,aas,aav,aa1];omega
theorem vI {d x:List Nat} {l:List (List Nat)} : x∈vH d l↔x=d∨x∈l:=by
 unfold vH;rw [aaL,aaq];constructor
 ·rintro (h | h | h)
  ·exact .inr (abv h)
  ·exact .inl h
  ·exact .inr (List.mem_of_mem_drop h)
 ·rintro (h | h)
  ·exact .inr (.inl h)
  ·rw [←List.take_append_drop (jU d l) l,aaL] at h
   rcases h with h | h
   ·exact .inl h
   ·exact .inr (.inr h)
theorem Gl {d:List Nat} {l:List (List Nat)} (hr:xM l) (hl:∀ x∈l,x.length=d.length) (hn:d ∉ l):xM (vH d l):=by
 have hlo:∀ x∈l.take (jU d l),bef x d=true:=fun x hx=>by
  obtain ⟨i,hi,rfl⟩:=List.mem_iff_getElem.1 hx;rw [aav] at hi;rw [List.getElem_take];exact zQ (l:=l) (i:=i) (by omega) (aac (by omega))
 have hhi:∀ x∈l.drop (jU d l),bef d x=true:=fun x hx=>by
  have hm:=List.mem_of_mem_drop hx;obtain ⟨i,hi,rfl⟩:=List.mem_iff_getElem.1 hx;rw [aa1] at hi;have hx2:l[jU d l+i]?=some (l.drop (jU d l))[i]:=by rw [List.getElem_drop];exact aac (by omega)
  exact MC _ _ (hl _ hm) (zS hr (Nat.le_add_right _ _) hx2) (fun e=>hn (e▸hm))
 unfold vH xM;rw [List.pairwise_append];refine ⟨hr.sublist (List.take_sublist _ _),List.pairwise_cons.2 ⟨hhi,hr.sublist (List.drop_sublist _ _)⟩,fun x hx y hy=>?_⟩;rw [aaq] at hy;rcases hy with rfl | hy
 ·exact hlo x hx
 ·exact ng _ _ _ (hlo x hx) (hhi y hy)
section
open Go.RowKit
def M32:Nat:=4294967296
def jK (v a:Nat):Nat:=(v*2 ^ (32 - a) % 4294967296) ||| (v / 2 ^ a)
theorem dO {v a:Nat} (h:v<4294967296):jK v a<4294967296:=by
 unfold jK;exact Nat.or_lt_two_pow (n:=32) (aaC _ (by decide)) (Nat.lt_of_le_of_lt (Nat.div_le_self _ _) h)
def Gm (v a b c:Nat):Nat:=jK v a ^^^ jK v b ^^^ jK v c
theorem zW8 {a b:Nat} (ha:a<4294967296) (hb:b<4294967296):a ^^^ b<4294967296:=Nat.xor_lt_two_pow (n:=32) ha hb
def vJ (z y s x:Nat):Nat:=(z+(jK y 7 ^^^ jK y 18 ^^^ y / 8)+s+(jK x 17 ^^^ jK x 19 ^^^ x / 1024)) % 4294967296
def Qi (w:List Nat):List Nat:=w++[vJ (w[w.length - 16]?.getD 0) (w[w.length - 15]?.getD 0) (w[w.length - 7]?.getD 0) (w[w.length - 2]?.getD 0)]
def qm (w:List Nat):Nat→List Nat
 | 0=>w
 | k+1=>Qi (qm w k)
structure S8 where
 a:Nat
 b:Nat
 c:Nat
 d:Nat
 e:Nat
 f:Nat
 g:Nat
 h:Nat
def S8.ok (s:S8):Prop:=s.a<4294967296∧s.b<4294967296∧s.c<4294967296∧s.d<4294967296∧s.e<4294967296∧s.f<4294967296∧s.g<4294967296∧s.h<4294967296
def S8.list (s:S8):List Nat:=[s.a,s.b,s.c,s.d,s.e,s.f,s.g,s.h]
def mr (s:S8) (k w:Nat):Nat:=(s.h+Gm s.e 6 11 25+(s.g ^^^ (s.e &&& (s.f ^^^ s.g)))+k+w) % 4294967296
def oN (s:S8):Nat:=(Gm s.a 2 13 22+((s.a &&& s.b) ||| (s.c &&& (s.a ||| s.b)))) % 4294967296
def xN (s:S8) (k w:Nat):S8:=⟨(mr s k w+oN s) % 4294967296,s.a,s.b,s.c,(s.d+mr s k w) % 4294967296,s.e,s.f,s.g⟩
theorem DD {s:S8} {k w:Nat} (h:s.ok):(xN s k w).ok:=by
 obtain ⟨h1,h2,h3,h4,h5,h6,h7,h8⟩:=h;exact ⟨aaC _ (by decide),h1,h2,h3,aaC _ (by decide),h5,h6,h7⟩
def zX9 (ks ws:List Nat) (s:S8):Nat→S8
 | 0=>s
 | t+1=>xN (zX9 ks ws s t) (ks[t]?.getD 0) (ws[t]?.getD 0)
def Ut (s v:S8):S8:=⟨(s.a+v.a) % 4294967296,(s.b+v.b) % 4294967296,(s.c+v.c) % 4294967296,(s.d+v.d) % 4294967296,(s.e+v.e) % 4294967296,(s.f+v.f) % 4294967296,(s.g+v.g) % 4294967296,(s.h+v.h) % 4294967296⟩
theorem Uu (s v:S8):(Ut s v).ok:=⟨aaC _ (by decide),aaC _ (by decide),aaC _ (by decide),aaC _ (by decide),aaC _ (by decide),aaC _ (by decide),aaC _ (by decide),aaC _ (by decide)⟩
def qp:List Nat:=[
 0x428a2f98,0x71374491,0xb5c0fbcf,0xe9b5dba5,0x3956c25b,0x59f111f1,0x923f82a4,0xab1c5ed5,0xd807aa98,0x12835b01,0x243185be,0x550c7dc3,0x72be5d74,0x80deb1fe,0x9bdc06a7,0xc19bf174,
 0xe49b69c1,0xefbe4786,0x0fc19dc6,0x240ca1cc,0x2de92c6f,0x4a7484aa,0x5cb0a9dc,0x76f988da,0x983e5152,0xa831c66d,0xb00327c8,0xbf597fc7,0xc6e00bf3,0xd5a79147,0x06ca6351,0x14292967,
 0x27b70a85,0x2e1b2138,0x4d2c6dfc,0x53380d13,0x650a7354,0x766a0abb,0x81c2c92e,0x92722c85,0xa2bfe8a1,0xa81a664b,0xc24b8b70,0xc76c51a3,0xd192e819,0xd6990624,0xf40e3585,0x106aa070,
 0x19a4c116,0x1e376c08,0x2748774c,0x34b0bcb5,0x391c0cb3,0x4ed8aa4a,0x5b9cca4f,0x682e6ff3,0x748f82ee,0x78a5636f,0x84c87814,0x8cc70208,0x90befffa,0xa4506ceb,0xbef9a3f7,0xc67178f2]
def iq:S8:=⟨0x6a09e667,0xbb67ae85,0x3c6ef372,0xa54ff53a,0x510e527f,0x9b05688c,0x1f83d9ab,0x5be0cd19⟩
theorem vK:iq.ok:=by unfold S8.ok iq;decide
theorem Gn:qp.length=64:=rfl
def Am (a b c d:Nat):Nat:=((a*256+b)*256+c)*256+d
def wordAt (l:List Nat) (t:Nat):Nat:=Am (l[4*t]?.getD 0) (l[4*t+1]?.getD 0) (l[4*t+2]?.getD 0) (l[4*t+3]?.getD 0)
def words (l:List Nat) (n:Nat):List Nat:=(List.range n).map (wordAt l)
theorem ni (l:List Nat) (n:Nat):(words l n).length=n:=by simp [words]
theorem Ap (l:List Nat) (n:Nat):words l (n+1)=words l n++[wordAt l n]:=by simp [words,List.range_succ]
def jr (s:S8) (l:List Nat):S8:=Ut s (zX9 qp (qm (words l 16) 48) s 64)
theorem Og (s:S8) (l:List Nat):(jr s l).ok:=Uu _ _
def bH (s:S8) (l:List Nat):Nat→S8
 | 0=>s
 | k+1=>jr (bH s l k) ((l.drop (64*k)).take 64)
theorem iU {s:S8} {l:List Nat} (h:s.ok):∀ k,(bH s l k).ok
 | 0=>h
 | _+1=>Og _ _
def bJ (n:Nat):Nat→List Nat
 | 0=>[]
 | k+1=>bJ (n / 256) k++[n % 256]
theorem iw (n:Nat):∀ k,(bJ n k).length=k
 | 0=>rfl
 | k+1=>by simp [bJ,iw (n / 256) k]
def qU (n:Nat):List Nat:=128::(List.replicate ((119 - n % 64) % 64) 0++bJ (n*8 % 18446744073709551616) 8)
def bM (l:List Nat):List Nat:=(bH iq (l++qU l.length) ((l.length+72) / 64)).list.flatMap fun v=>bJ v 4
theorem pq:∀ l:List Nat,(l.flatMap fun v=>bJ v 4).length=4*l.length
 | []=>rfl
 | v::l=>by rw [aaF,aan,iw,pq l,aas];omega
theorem bI (l:List Nat):(bM l).length=32:=by unfold bM;rw [pq];rfl
def dP (tag l:List Nat):List Nat:=bM (bM tag++l)
theorem dZ (tag l:List Nat):(dP tag l).length=32:=bI _
def ag (l:List Nat):List Value:=l.map fun n:Nat=>Value.int .u8 (n:Int)
def bY (l:List Nat):List Value:=l.map fun n:Nat=>Value.int .u32 (n:Int)
theorem ai (l:List Nat):(ag l).length=l.length:=by simp [ag]
theorem lV (l:List Nat):(bY l).length=l.length:=by simp [bY]
theorem qw {l:List Nat} {k x:Nat} (h:l[k]?=some x):(ag l)[k]?=some (.int .u8 x):=by simp [ag,h]
theorem zT {l:List Nat} {k x:Nat} (h:l[k]?=some x):(bY l)[k]?=some (.int .u32 x):=by simp [bY,h]
def okB (l:List Nat):Prop:=∀ x∈l,x<256
theorem jV (v a m d:Nat) (h0:v<4294967296) (hm:2 ^ (32 - a)=m) (hd:2 ^ a=d):bits BinOp.or IntKind.u32 ((v:Int) * (m:Nat) % 4294967296) ((v:Int) / (d:Nat))=((jK v a:Nat):Int):=by
 have e1:((v:Int) * (m:Nat) % 4294967296)=((v*m % 4294967296:Nat):Int):=by simp
 have e2:((v:Int) / (d:Nat))=((v / d:Nat):Int):=by simp
 rw [e1,e2,u32_or_nat _ _ (aaC _ (by decide)) (Nat.lt_of_le_of_lt (Nat.div_le_self _ _) h0)];unfold jK;rw [hm,hd]
def VK (k:Int):Bool:=k == -7||k == -18||k == -17||k == -19||k == -6||k == -11||k == -25||k == -2||k == -13||k == -22
theorem qx (v:Nat) (k:Int) (w:World) (h1:v<4294967296) (hk:VK k=true) :
  Calls prog 271 #[.int .u32 v,.int .i64 k] w (Same (.int .u32 (jK v (-k).toNat)) w):=by
 simp only [VK,Bool.or_eq_true,beq_iff_eq] at hk;rcases hk with ((((((((rfl | rfl) | rfl) | rfl) | rfl) | rfl) | rfl) | rfl) | rfl) | rfl
 ·have hb:bits BinOp.and .u64 (IntKind.u64.wrap (-7)) 31=25:=by decide
  have ho:=aab (jV v 7 33554432 128 h1 (by decide) (by decide));go_enter func271,ntmps271;go_wp2
  go_ret;exact ⟨congrArg (fun n=>Ending.returned (.int .u32 n)) ho.out,rfl⟩
 ·have hb:bits BinOp.and .u64 (IntKind.u64.wrap (-18)) 31=14:=by decide
  have ho:=aab (jV v 18 16384 262144 h1 (by decide) (by decide));go_enter func271,ntmps271;go_wp2
  go_ret;exact ⟨congrArg (fun n=>Ending.returned (.int .u32 n)) ho.out,rfl⟩
 ·have hb:bits BinOp.and .u64 (IntKind.u64.wrap (-17)) 31=15:=by decide
  have ho:=aab (jV v 17 32768 131072 h1 (by decide) (by decide));go_enter func271,ntmps271;go_wp2
  go_ret;exact ⟨congrArg (fun n=>Ending.returned (.int .u32 n)) ho.out,rfl⟩
 ·have hb:bits BinOp.and .u64 (IntKind.u64.wrap (-19)) 31=13:=by decide
  have ho:=aab (jV v 19 8192 524288 h1 (by decide) (by decide));go_enter func271,ntmps271;go_wp2
  go_ret;exact ⟨congrArg (fun n=>Ending.returned (.int .u32 n)) ho.out,rfl⟩
 ·have hb:bits BinOp.and .u64 (IntKind.u64.wrap (-6)) 31=26:=by decide
  have ho:=aab (jV v 6 67108864 64 h1 (by decide) (by decide));go_enter func271,ntmps271;go_wp2
  go_ret;exact ⟨congrArg (fun n=>Ending.returned (.int .u32 n)) ho.out,rfl⟩
 ·have hb:bits BinOp.and .u64 (IntKind.u64.wrap (-11)) 31=21:=by decide
  have ho:=aab (jV v 11 2097152 2048 h1 (by decide) (by decide));go_enter func271,ntmps271;go_wp2
  go_ret;exact ⟨congrArg (fun n=>Ending.returned (.int .u32 n)) ho.out,rfl⟩
 ·have hb:bits BinOp.and .u64 (IntKind.u64.wrap (-25)) 31=7:=by decide
  have ho:=aab (jV v 25 128 33554432 h1 (by decide) (by decide));go_enter func271,ntmps271;go_wp2
  go_ret;exact ⟨congrArg (fun n=>Ending.returned (.int .u32 n)) ho.out,rfl⟩
 ·have hb:bits BinOp.and .u64 (IntKind.u64.wrap (-2)) 31=30:=by decide
  have ho:=aab (jV v 2 1073741824 4 h1 (by decide) (by decide));go_enter func271,ntmps271;go_wp2
  go_ret;exact ⟨congrArg (fun n=>Ending.returned (.int .u32 n)) ho.out,rfl⟩
 ·have hb:bits BinOp.and .u64 (IntKind.u64.wrap (-13)) 31=19:=by decide
  have ho:=aab (jV v 13 524288 8192 h1 (by decide) (by decide));go_enter func271,ntmps271;go_wp2
  go_ret;exact ⟨congrArg (fun n=>Ending.returned (.int .u32 n)) ho.out,rfl⟩
 ·have hb:bits BinOp.and .u64 (IntKind.u64.wrap (-22)) 31=10:=by decide
  have ho:=aab (jV v 22 1024 4194304 h1 (by decide) (by decide));go_enter func271,ntmps271;go_wp2
  go_ret;exact ⟨congrArg (fun n=>Ending.returned (.int .u32 n)) ho.out,rfl⟩
theorem gI (a b:Nat) (ha:a<4294967296) (hb:b<4294967296):bits BinOp.xor IntKind.u32 (a:Int) (b:Int)=((a ^^^ b:Nat):Int):=u32_xor_nat a b ha hb
theorem Oh (v:Nat) (w:World) (h1:v<4294967296):Calls prog 272 #[.int .u32 v,.int .i64 6,.int .i64 11,.int .i64 25] w (Same (.int .u32 (Gm v 6 11 25:Nat)) w):=by
 have e1:=dO (a:=6) h1;have e2:=dO (a:=11) h1;have e3:=dO (a:=25) h1;have hx:=aab (gI _ _ e1 e2);have hy:=aab (gI _ _ (zW8 e1 e2) e3);go_enter func272,ntmps272;go_wp2_with fail;refine (qx v (-6) _ h1 (by decide)).mono ?_;rintro e w' ⟨rfl,rfl⟩;rw [show (-(-6:Int)).toNat=6 from rfl];go_wp2_with fail;refine (qx v (-11) _ h1 (by decide)).mono ?_;rintro e w' ⟨rfl,rfl⟩;rw [show (-(-11:Int)).toNat=11 from rfl];go_wp2_with fail;refine (qx v (-25) _ h1 (by decide)).mono ?_;rintro e w' ⟨rfl,rfl⟩;rw [show (-(-25:Int)).toNat=25 from rfl];go_wp2_with fail;rw [hx.out,hy.out];go_ret;exact ⟨rfl,rfl⟩
theorem Oi (v:Nat) (w:World) (h1:v<4294967296):Calls prog 272 #[.int .u32 v,.int .i64 2,.int .i64 13,.int .i64 22] w (Same (.int .u32 (Gm v 2 13 22:Nat)) w):=by
 have e1:=dO (a:=2) h1;have e2:=dO (a:=13) h1;have e3:=dO (a:=22) h1;have hx:=aab (gI _ _ e1 e2);have hy:=aab (gI _ _ (zW8 e1 e2) e3);go_enter func272,ntmps272;go_wp2_with fail;refine (qx v (-2) _ h1 (by decide)).mono ?_;rintro e w' ⟨rfl,rfl⟩;rw [show (-(-2:Int)).toNat=2 from rfl];go_wp2_with fail;refine (qx v (-13) _ h1 (by decide)).mono ?_;rintro e w' ⟨rfl,rfl⟩;rw [show (-(-13:Int)).toNat=13 from rfl];go_wp2_with fail;refine (qx v (-22) _ h1 (by decide)).mono ?_;rintro e w' ⟨rfl,rfl⟩;rw [show (-(-22:Int)).toNat=22 from rfl];go_wp2_with fail;rw [hx.out,hy.out];go_ret;exact ⟨rfl,rfl⟩
def mO (l:List Nat):Nat→Nat
 | 0=>0
 | k+1=>mO l k*256+l[k]?.getD 0
theorem EM {l:List Nat} (h:okB l):∀ k,mO l k<256 ^ k
 | 0=>by simp [mO]
 | k+1=>by
  have h1:=EM h k
  have h2:l[k]?.getD 0<256:=by
   cases hx:l[k]? with
   | none=>decide
   | some x=>exact h x (aam hx)
  show mO l k*256+l[k]?.getD 0<_;rw [abf];omega
theorem Oj {n c:Nat} (hn:n<16777216) (hc:c<256):bits BinOp.or IntKind.u32 ((n:Int)*256) (c:Int)=((n*256+c:Nat):Int):=by
 have e1:((n:Int)*256)=((n*256:Nat):Int):=by omega
 rw [e1,u32_or_nat _ _ (by omega) (by omega)];congr 1
 have:=Nat.shiftLeft_add_eq_or_of_lt (b:=c) (i:=8) (by omega) n
 rw [Nat.shiftLeft_eq] at this;exact this.symm
theorem VV {w:World} {B n k:Nat} {A:Option Addr} {l:List Nat} {x:Nat} (h:Rd w B 1 A n (ag l)) (hn:k<n) (hx:l[k]?=some x) :
  ∃ b off,A=some ⟨b,off,none⟩∧b<B∧w.cell? ⟨b,off+k,none⟩=some (.int .u8 x):=by
 obtain ⟨b,off,hA,hb,hc⟩:=h.2 (by omega);exact ⟨b,off,hA,hb,hc _ _ (qw hx)⟩
theorem Qj (A:Option Addr) (n c:Nat) (l:List Nat) (w:World) (hA:Rd w w.heap.size 1 A n (ag l)) (ho:okB l) (hn:4≤n) (hc:n≤c) (hc2:c≤9223372036854775807) :
  Calls prog 270 #[.slice A n c] w (Same (.int .u32 (mO l 4:Nat)) w):=by
 have hl:Hid (l.length=n):=by have:=hA.1;rw [ai,aaA] at this;exact this
 go_enter func270,ntmps270;go_wp2
 go_loop [2,8] (fun s i=>∃ k:Nat,k≤4∧i = .int .i64 k∧s = .int .u32 (mO l k:Nat)) (fun _ i=>4 - (intOf i).toNat)
 case atStart=>exact ⟨0,aao _,rfl,rfl⟩
 case round =>
  obtain ⟨k,hkn,rfl,rfl⟩:=hrel;by_cases hlt:k<4
  ·obtain ⟨x,hx⟩:∃ x,Hid (l[k]?=some x):=⟨_,aab (aac (by rw [hl.out];omega))⟩
   obtain ⟨b,off,rfl,hbb,c0⟩:=VV hA (show k<n by omega) hx.out;have hx8:x<256:=ho x (aam hx.out)
   have ha:mO l k<16777216:=aaS (EM ho k) (by
    have:256 ^ k≤256 ^ 3:=Nat.pow_le_pow_right (by omega) (by omega)
    exact this)
   have hs:Hid (bits BinOp.or IntKind.u32 ((mO l k:Int)*256) (x:Int)=((mO l (k+1):Nat):Int)):=by
    show _=_;rw [Oj ha hx8];show _=((mO l k*256+l[k]?.getD 0:Nat):Int);rw [hx.out];rfl
   go_wp2
   exact ⟨⟨k+1,by omega,by go_num,by rw [hs.out]⟩,by simp [intOf];omega⟩
  ·obtain rfl:k=4:=by omega
   go_wp2
   go_ret;exact ⟨rfl,rfl⟩
theorem grownBy_trans {a b c:World} {row:Option Nat} (h:a.grownBy b row) (k:b.grownBy c row):a.grownBy c row :=
 ⟨k.1.trans h.1,k.2.trans h.2,k.3.trans h.3,aaj h.size k.size,fun i hi hr=>(k.block i (aaS hi h.size) hr).trans (h.block i hi hr)⟩
theorem nI (W:World) (b i:Nat) (v:Value):W.grownBy (W.setCell ⟨b,i,none⟩ v) (some b) :=
 ⟨rfl,rfl,rfl,by simp [World.setCell],fun k _ hk=>Below.heap_setCell _ _ _ k (fun e=>hk (by rw [e]))⟩
theorem yK (n:Nat):∀ j,bJ n (j+1)=(n / 256 ^ j % 256)::bJ n j
 | 0=>by simp [bJ]
 | j+1=>by
  have h:=yK (n / 256) j;show bJ (n / 256) (j+1)++[n % 256]=_::(bJ (n / 256) j++[n % 256]);rw [h,Nat.div_div_eq_div_mul,abf,abg 256];rfl
theorem Gp {pre post:List Value} {n k i:Nat} (hi:i<k) (old:List Value) (ho:old.length=k) :
  ((pre++(old.take (k - i)++ag (bJ n i))++post).set (pre.length+(k - 1 - i)) (.int .u8 ((n / 256 ^ i % 256:Nat):Int)))=pre++(old.take (k - (i+1))++ag (bJ n (i+1)))++post:=by
 have e1:k - i=(k - (i+1))+1:=by omega
 have e2:old.take (k - i)=old.take (k - (i+1))++[old[k - (i+1)]'(by omega)]:=by
  rw [e1,aaB]
 have e3:(old.take (k - (i+1))).length=k - 1 - i:=by rw [aav];omega
 have e4:ag (bJ n (i+1)) = .int .u8 ((n / 256 ^ i % 256:Nat):Int)::ag (bJ n i):=by rw [yK];rfl
 rw [e2,e4];generalize old.take (k - (i+1))=q at *;generalize old[k - (i+1)]'(by omega)=x at *;generalize ag (bJ n i)=r at *
 subst_vars
 have:pre++(q++[x]++r)++post=(pre++q)++(x::(r++post)):=by simp
 rw [this,abw _ _ (by simp;omega)]
 have:pre.length+(old.length - 1 - i) - (pre++q).length=0:=by simp;omega
 rw [this]
 simp
theorem put_any (b off k c n:Nat) (t:TypeId) (pre old post:List Value) (w:World) (hB:Blk w b t (pre++old++post).toArray) (hpre:pre.length=off) (hold:old.length=k) (hk:k≤8) :
  Calls prog 244 #[.slice (some ⟨b,off,none⟩) k c,.int .u64 n] w fun r w'=>r = .returned (.tuple #[])∧w.grownBy w' (some b)∧Blk w' b t (pre++ag (bJ n k)++post).toArray:=by
 go_enter func244,ntmps244;go_wp2
 go_loopw [7] (fun i wr=>∃ j:Nat,j≤k∧i = .int .i64 j∧w.grownBy wr (some b)∧Blk wr b t (pre++(old.take (k - j)++ag (bJ n j))++post).toArray) (fun i _=>k - (intOf i).toNat)
 case atStart=>exact ⟨0,aao _,rfl,World.grownBy.refl _ _,by simp [bJ,ag,←hold];simpa using hB⟩
 case round =>
  obtain ⟨j,hj,rfl,hg,hBr⟩:=hrel;by_cases hlt:j<k
  ·have hcell:∃ v,wr.cell? ⟨b,off+(k - 1 - j),none⟩=some v:=by
    rw [hBr.cell];simp only [aaG];exact ⟨_,aac (by simp only [aan,aav,ai,iw];omega)⟩
   obtain ⟨v,hv⟩:=hcell;have hz:=hBr.frozen (off+(k - 1 - j));have hb2:=aab (hBr.set_ (off+(k - 1 - j)) (.int .u8 ((n / 256 ^ j % 256:Nat):Int)));have hg2:=aab (nI wr b (off+(k - 1 - j)) (.int .u8 ((n / 256 ^ j % 256:Nat):Int)))
   have hn2:Hid (((n:Int) / 2 ^ (8*j) % 256)=((n / 256 ^ j % 256:Nat):Int)):=by
    show _=_;rw [show (256:Nat)=2 ^ 8 by decide,←Nat.pow_mul]
    simp
   have hst:=aab (Gp (pre:=pre) (post:=post) (n:=n) hlt old hold);go_wp2
   rw [hn2.out];refine ⟨⟨j+1,by omega,by go_num,grownBy_trans hg hg2.out,?_⟩,by simp [intOf];omega⟩;have h:=hb2.out;rw [aaf,←hpre,hst.out] at h;rw [←hpre];exact h
  ·obtain rfl:j=k:=by omega
   go_wp2
   go_end0;exact ⟨rfl,hg,by simpa using hBr⟩
def stay (w:World) (_:Later):World:=w
theorem Ol (w:World) (x:Later) (p:Addr):(stay w x).cell? p=w.cell? p:=rfl
theorem Gq (w:World) (x:Later) (p:Addr):(stay w x).frozen? p=w.frozen? p:=rfl
theorem Om (w:World) (x:Later):(stay w x).heap=w.heap:=rfl
attribute [go_sem] Ol Gq Om
theorem Aq {P:Program} {o:Oper} {a:Act} {w0:World} {next next':Act→Prop} (hn:∀ a,next a→next' a) (h:o.quiet P a (fun w'=>∃ x:Later,w'=stay w0 x) next):o.still P a w0 next':=by
 obtain ⟨v,hv,hk⟩:=h;have h1:=hv w0 ⟨default,rfl⟩;unfold Oper.quietAt at h1;unfold Oper.still;generalize (execOp a.eval o).run P w0=r at *;cases r with
 | ok n w' =>
  cases n with
  | value u=>obtain ⟨e1,e2⟩:=h1;subst e2;exact ⟨e1,hn _ hk⟩
  | skip=>obtain ⟨e1,e2⟩:=h1;subst e2;exact ⟨e1,hn _ hk⟩
  | enter f args=>exact ⟨h1.1,v,h1.2.mono fun e w'' ⟨he,x,hx⟩=>⟨he,hx⟩,hn _ hk⟩
  | _=>exact h1.elim
 | halt x w'=>exact h1.elim
theorem lC {P:Program} {ops:Array Oper} {w0:World} {Q:Act→Prop} : ∀ (l:List Oper) (a:Act),wpQuiet P ops (fun w'=>∃ x:Later,w'=stay w0 x) Q l a→wpStill P ops w0 Q l a
 | [],_,h=>h
 | o::rest,a,h=>by
  simp only [wpQuiet] at h;simp only [wpStill]
  split at h
  ·rename_i hw
   rw [if_pos hw];exact Aq (fun a' ha=>lC rest a' ha) h
  ·rename_i hw
   rw [if_neg hw];exact lC rest _ h
theorem jC {P:Program} {id:Nat} {Q:Exit→Act→World→Prop} {a:Act} {w:World} {l:List Oper} (n:Nat) (hm:P.follows .mixedOrders=true) (hB:Region.lexTailB .any l.toArray n=true)
  (h:wpQuiet P l.toArray (fun w'=>∃ x:Later,w'=stay w.drew x) (fun a'=>wpList P l.toArray Q (l.drop n) a' w.drew) (l.take n) a):(Code.region id l.toArray true).wp P Q a w :=
 wp_region_still_tail n hm hB (lC _ _ h)
theorem Oo {P:Program} {f:FuncId} {args:Array Value} {v:Value} {w:World} {x:Later} (h:Calls P f args (stay w x) (Same v (stay w x))) :
  Calls P f args (stay w x) fun e w''=>e = .returned v∧∃ y:Later,w''=stay w y :=
 h.mono fun _ _ ⟨he,hb⟩=>⟨he,x,hb.symm⟩
def eY (ws:List Nat):List Value:=bY (ws++List.replicate (64 - ws.length) 0)
theorem Oq {ws:List Nat} (h:ws.length≤64):(eY ws).length=64:=by simp [eY,lV];omega
theorem Ot {ws:List Nat} (h:ws.length<64) (x:Nat):(eY ws).set ws.length (.int .u32 x)=eY (ws++[x]):=by
 have e:64 - ws.length=(64 - (ws++[x]).length)+1:=by simp;omega
 unfold eY bY;rw [e,List.replicate_succ,aaT,abw _ _ (by simp)]
 simp
theorem Qk {ws:List Nat} {k x:Nat} (h:ws[k]?=some x):(eY ws)[k]?=some (.int .u32 x):=by
 unfold eY;refine zT ?_;rw [aaO (aag.1 h).1];exact h
theorem gQ {w:World} {b:Nat} {t:TypeId} {ws:List Nat} {k x:Nat} (hB:Blk w b t (eY ws).toArray) (h:ws[k]?=some x):w.cell? ⟨b,k,none⟩=some (.int .u32 x):=by
 rw [hB.cell];simpa using Qk h
theorem nJ {w:World} {b:Nat} {t:TypeId} {ws:List Nat} {k:Nat} (hB:Blk w b t (eY ws).toArray) (h:ws.length≤64) (hk:k<64):∃ v,w.cell? ⟨b,k,none⟩=some v:=by
 rw [hB.cell];simp only [aaG];exact ⟨_,aac (by rw [Oq h];exact hk)⟩
theorem Blk.fill {w:World} {b:Nat} {t:TypeId} {ws:List Nat} (hB:Blk w b t (eY ws).toArray) (h:ws.length<64) (k x:Nat) (hk:ws.length=k):Blk (w.setCell ⟨b,k,none⟩ (.int .u32 x)) b t (eY (ws++[x])).toArray:=by
 subst hk
 have:=hB.set_ ws.length (.int .u32 x)
 rw [aaf,Ot h] at this;exact this
def ltU (ws:List Nat):Prop:=∀ x∈ws,x<4294967296
theorem DF (l:List Nat) (t:Nat):mO (l.drop (4*t)) 4=wordAt l t:=by
 unfold wordAt Am;simp [mO]
theorem kQ {l:List Nat} (h:okB l) (k:Nat):okB (l.drop k):=fun x hx=>h x (List.mem_of_mem_drop hx)
theorem Gs {l:List Nat} (h:okB l) (n:Nat):ltU (words l n):=by
 intro x hx;obtain ⟨t,_,rfl⟩:=aaK.1 hx;rw [←DF];exact EM (kQ h _) 4
theorem Ql (z y s x:Nat):vJ z y s x<4294967296:=aaC _ (by decide)
theorem Qm {ws:List Nat} (h:ltU ws) {x:Nat} (hx:x<4294967296):ltU (ws++[x]):=by
 intro y hy;rw [aaL,List.mem_singleton] at hy;rcases hy with hy | rfl
 ·exact h y hy
 ·exact hx
theorem div_lt {v d:Nat} (h:v<4294967296):v / d<4294967296:=Nat.lt_of_le_of_lt (Nat.div_le_self _ _) h
theorem DI (z y s x:Nat) (hy:y<4294967296) (hx:x<4294967296) :
  (((z:Int)+bits BinOp.xor IntKind.u32 (bits BinOp.xor IntKind.u32 (jK y 7:Nat) (jK y 18:Nat)) ((y:Int) / 8)+s+bits BinOp.xor IntKind.u32 (bits BinOp.xor IntKind.u32 (jK x 17:Nat) (jK x 19:Nat)) ((x:Int) / 1024)) % 4294967296)=((vJ z y s x:Nat):Int):=by
 have e1:((y:Int) / 8)=((y / 8:Nat):Int):=by simp
 have e2:((x:Int) / 1024)=((x / 1024:Nat):Int):=by simp
 rw [e1,e2,gI _ _ (dO hy) (dO hy),gI _ _ (dO hx) (dO hx),gI _ _ (zW8 (dO hy) (dO hy)) (div_lt hy),gI _ _ (zW8 (dO hx) (dO hx)) (div_lt hx)];unfold vJ;omega
theorem grow_step {ws l:List Nat} {j x16 x15 x7 x2:Nat} (h:ltU ws∧ws.length=j∧ws=qm (words l 16) (j - 16)) (hj:16≤j) (h16:ws[j - 16]?=some x16) (h15:ws[j - 15]?=some x15) (h7:ws[j - 7]?=some x7) (h2:ws[j - 2]?=some x2) :
  ltU (ws++[vJ x16 x15 x7 x2])∧(ws++[vJ x16 x15 x7 x2]).length=j+1∧ws++[vJ x16 x15 x7 x2]=qm (words l 16) (j+1 - 16):=by
 obtain ⟨hl,hn,he⟩:=h;refine ⟨Qm hl (Ql _ _ _ _),by simp [hn],?_⟩;rw [show j+1 - 16=(j - 16)+1 by omega];show _=Qi (qm (words l 16) (j - 16));rw [←he];unfold Qi;rw [hn,h16,h15,h7,h2];rfl
theorem kR {w:World} {b:Nat} {t:TypeId} {s:S8} (h:Blk w b t (bY s.list).toArray) :
  w.cell? ⟨b,0,none⟩=some (.int .u32 s.a)∧w.cell? ⟨b,1,none⟩=some (.int .u32 s.b)∧w.cell? ⟨b,2,none⟩=some (.int .u32 s.c)∧w.cell? ⟨b,3,none⟩=some (.int .u32 s.d) ∧
  w.cell? ⟨b,4,none⟩=some (.int .u32 s.e)∧w.cell? ⟨b,5,none⟩=some (.int .u32 s.f)∧w.cell? ⟨b,6,none⟩=some (.int .u32 s.g)∧w.cell? ⟨b,7,none⟩=some (.int .u32 s.h) :=
 ⟨h.cell 0,h.cell 1,h.cell 2,h.cell 3,h.cell 4,h.cell 5,h.cell 6,h.cell 7⟩
theorem oD (a b:Nat) (ha:a<4294967296) (hb:b<4294967296):bits BinOp.and IntKind.u32 (a:Int) (b:Int)=((a &&& b:Nat):Int):=u32_and_nat a b ha hb
theorem Qo (a b:Nat) (ha:a<4294967296) (hb:b<4294967296):bits BinOp.or IntKind.u32 (a:Int) (b:Int)=((a ||| b:Nat):Int):=u32_or_nat a b ha hb
theorem oO {a b:Nat} (ha:a<4294967296):a &&& b<4294967296:=Nat.lt_of_le_of_lt Nat.and_le_left ha
theorem WX {a b:Nat} (ha:a<4294967296) (hb:b<4294967296):a ||| b<4294967296:=Nat.or_lt_two_pow (n:=32) ha hb
theorem Ju (s:S8) (k x:Nat) (he:s.e<4294967296) (hf:s.f<4294967296) (hg:s.g<4294967296) :
  Hid ((((s.h:Int)+(Gm s.e 6 11 25:Nat)+bits BinOp.xor IntKind.u32 (s.g:Int) (bits BinOp.and IntKind.u32 (s.e:Int) (bits BinOp.xor IntKind.u32 (s.f:Int) (s.g:Int)))+k) % 4294967296+x) % 4294967296=((mr s k x:Nat):Int)):=by
 show _=_;rw [gI _ _ hf hg,oD _ _ he (zW8 hf hg),gI _ _ hg (oO he)];unfold mr;omega
theorem Jv (s:S8) (ha:s.a<4294967296) (hb:s.b<4294967296) (hc:s.c<4294967296) :
  Hid (((Gm s.a 2 13 22:Nat)+bits BinOp.or IntKind.u32 (bits BinOp.and IntKind.u32 (s.a:Int) (s.b:Int)) (bits BinOp.and IntKind.u32 (s.c:Int) (bits BinOp.or IntKind.u32 (s.a:Int) (s.b:Int)))) % 4294967296=((oN s:Nat):Int)):=by
 show _=_;rw [Qo _ _ ha hb,oD _ _ ha hb,oD _ _ hc (WX ha hb),Qo _ _ (oO ha) (oO hc)];unfold oN;omega
theorem yL {ks ws:List Nat} {s vs:S8} {t k x:Nat} (h:vs=zX9 ks ws s t) (hk:ks[t]?=some k) (hx:ws[t]?=some x):xN vs k x=zX9 ks ws s (t+1):=by
 show _=xN (zX9 ks ws s t) (ks[t]?.getD 0) (ws[t]?.getD 0);rw [hk,hx,←h];rfl
theorem pz {W w:World} (h:Below W.heap.size W w) (r:Option Nat):W.grownBy w r:=⟨h.os,h.tape,h.output,h.size,fun k hk _=>h.block k hk⟩
def vM (s v:S8) (k:Nat):List Value:=bY ((Ut s v).list.take k++s.list.drop k)
theorem Qq (s v:S8) (t:Nat) (ht:t<8):∃ x y,s.list[t]?=some x∧v.list[t]?=some y∧(vM s v t)[t]?=some (.int .u32 (x:Nat))∧(vM s v t).set t (.int .u32 ((x+y) % 4294967296:Nat))=vM s v (t+1):=by
 have h8:t=0∨t=1∨t=2∨t=3∨t=4∨t=5∨t=6∨t=7:=by omega
 rcases h8 with rfl | rfl | rfl | rfl | rfl | rfl | rfl | rfl <;> exact ⟨_,_,rfl,rfl,rfl,rfl⟩
def ShaG (w:World):Prop:=(∀ i x,qp[i]?=some x→w.cell? ⟨2,i,none⟩=some (.int .u32 (x:Nat)))∧(∀ i x,iq.list[i]?=some x→w.cell? ⟨0,i,none⟩=some (.int .u32 (x:Nat))) ∧
 2<w.heap.size∧0<w.heap.size
theorem ShaG.below {w w':World} (h:ShaG w) (hb:Below w.heap.size w w'):ShaG w' :=
 ⟨fun i x hx=>(hb.cell (p:=⟨2,i,none⟩) h.2.2.1).trans (h.1 i x hx),fun i x hx=>(hb.cell (p:=⟨0,i,none⟩) h.2.2.2).trans (h.2.1 i x hx),aaS h.2.2.1 hb.size,aaS h.2.2.2 hb.size⟩
theorem uJ (bs c : Nat) (A : Option Addr) (s : S8) (l : List Nat) (W : World) (hS : Blk W bs 274 (bY s.list).toArray) (hs : s.ok) (hA : Rd W W.heap.size 1 A 64 (ag l)) (ho : okB l) (hc : 64 ≤ c) (hc2 : c ≤ 9223372036854775807) (hG : ShaG W) :
  Calls prog 243 #[.pointer (some ⟨bs,0,none⟩),.slice A 64 c] W fun r w'=>r = .returned (.tuple #[])∧W.grownBy w' (some bs)∧Blk w' bs 274 (bY (jr s l).list).toArray:=by
 have hl:Hid (l.length=64):=by have:=hA.1;rw [ai,aaA] at this;exact this
 obtain ⟨b,off,rfl,hbb,_⟩:=hA.2 (by omega);have hbs:=hS.lt;go_enter func243,ntmps243;go_wp2_with fail;change Code.wp _ _ _ _ (W.alloc (.cells (eY []).toArray 292));have BW:=Blk.new W 292 (eY []).toArray _ rfl;have hg:=World.grownBy_alloc W (.cells (eY []).toArray 292) (some bs);have BS:=hS.alloc (.cells (eY []).toArray 292);have hbel:=bAl (aj W) (.cells (eY []).toArray 292);generalize W.alloc (.cells (eY []).toArray 292)=w1 at *;go_loopw [14] (fun i wr=>∃ k:Nat,k≤16∧i = .int .i64 k∧Below W.heap.size W wr∧Blk wr W.heap.size 292 (eY (words l k)).toArray) (fun i _=>16 - (intOf i).toNat)
 case atStart=>exact ⟨0,aao _,rfl,hbel,BW⟩
 case round =>
  clear hbel BW hg BS;obtain ⟨k,hk,rfl,hb,BW⟩:=hrel;by_cases hlt:k<16
  ·have hA':Rd wr wr.heap.size 1 (some ⟨b,off+4*k,none⟩) (64 - 4*k) (ag (l.drop (4*k))):=by
    have h:=((hA.below hb).more hb.size).cut (4*k) (by omega);rw [aaA] at h;have e:ag (l.drop (4*k))=(ag l).drop (4*k):=(by simp [ag]);rw [e];exact h
   have hw:Hid (mO (l.drop (4*k)) 4=wordAt l k):=DF l k;go_wp2_with fail;refine (Qj _ _ _ _ wr hA' (kQ ho _) (by omega) (by omega) (by omega)).mono ?_;rintro e w' ⟨rfl,rfl⟩;rw [hw.out];obtain ⟨v,hv⟩:=nJ BW (by rw [ni];omega) (show k<64 by omega);have hz:=BW.frozen k;have hk64:k<64:=(by omega);have hwl:=aab (ni l k);go_wp2_with fail;go_roundw
   case rel=>exact ⟨k+1,by omega,by go_num,zQ7 hb (aad _) _,by rw [Ap];exact BW.fill (by rw [hwl.out];omega) k _ hwl.out⟩
   case measure=>simp [intOf];omega
  ·have hk16:k=16:=by omega
   rw [hk16] at BW;clear hk16;have hW0:Hid (words l 16=qm (words l 16) 0):=rfl;rw [hW0.out] at BW;go_wp2_with fail;go_loopw [6] (fun i wr=>∃ (j:Nat) (ws:List Nat),16≤j∧j≤64∧i = .int .i64 j∧Below W.heap.size W wr∧Blk wr W.heap.size 292 (eY ws).toArray∧Hid (ltU ws∧ws.length=j∧ws=qm (words l 16) (j - 16))) (fun i _=>64 - (intOf i).toNat)
   case atStart=>exact ⟨16,_,aad _,by omega,rfl,hb,BW,aab ⟨Gs ho 16,ni _ _,rfl⟩⟩
   case round =>
    clear hb BW hlt hk hW0;obtain ⟨j,ws,hj16,hj64,rfl,hb,BW,hW⟩:=hrel;by_cases hlt:j<64
    ·obtain ⟨hWl,hWn,hWe⟩:=hW.out
     obtain ⟨x16,h16⟩:∃ x,Hid (ws[j - 16]?=some x):=⟨_,aab (aac (by omega))⟩
     obtain ⟨x15,h15⟩:∃ x,Hid (ws[j - 15]?=some x):=⟨_,aab (aac (by omega))⟩
     obtain ⟨x7,h7⟩:∃ x,Hid (ws[j - 7]?=some x):=⟨_,aab (aac (by omega))⟩
     obtain ⟨x2,h2⟩:∃ x,Hid (ws[j - 2]?=some x):=⟨_,aab (aac (by omega))⟩
     have l16:=hWl _ (aam h16.out);have l15:=hWl _ (aam h15.out);have l7:=hWl _ (aam h7.out);have l2:=hWl _ (aam h2.out);have d16:=gQ BW h16.out;have d15:=gQ BW h15.out;have d7:=gQ BW h7.out;have d2:=gQ BW h2.out;have i15:(0:Int)≤(j:Int) - 15:=(by omega);have i15':(j:Int) - 15<64:=(by omega);have i2:(0:Int)≤(j:Int) - 2:=(by omega);have i2':(j:Int) - 2<64:=(by omega);have hwlen:=aab hWn;clear hWl hWn hWe;go_wp2_with fail;go_quiet (fail)
     have hq:=o8 (aj wr) nq;have hb2:=o8 hb nq;have BW2:Blk (wr.drewN nq) W.heap.size 292 (eY ws).toArray:=BW.below hq BW.lt;clear d16 d15 d7 d2 hb BW hq;generalize wr.drewN nq=w2 at *;have d16:=gQ BW2 h16.out;have d7:=gQ BW2 h7.out;have i16:(0:Int)≤(j:Int) - 16:=(by omega);have i16':(j:Int) - 16<64:=(by omega);have i7:(0:Int)≤(j:Int) - 7:=(by omega);have i7':(j:Int) - 7<64:=(by omega);go_wp2_with fail;refine jC 29 (by kernel_rfl) (by kernel_rfl) ?_;simp only [abq,abj,abx,aa3]
     repeat (go_big_quiet_step (first | (go_at_call 271;exact Oo (qx _ _ _ (by assumption) (by decide)))))
     refine wpQuiet_nil ?_;obtain ⟨v,hv⟩:=nJ BW2 (by rw [hwlen.out];omega) (show j<64 by omega);have hz:=BW2.frozen j;go_wp2_with fail;go_roundw
     case rel =>
      have hv:=aab (DI x16 x15 x7 x2 l15 l2);rw [hv.out];have hw':=aab (grow_step hW.out hj16 h16.out h15.out h7.out h2.out);refine ⟨j+1,ws++[vJ x16 x15 x7 x2],by omega,by omega,by go_num,bDr (zQ7 hb2 (aad _) _),(BW2.fill (by rw [hwlen.out];exact hlt) j _ hwlen.out).below (bDr (aj _)) (BW2.fill (by rw [hwlen.out];exact hlt) j _ hwlen.out).lt,hw'.out⟩
     case measure=>simp [intOf];omega
    ·have hj:j=64:=by omega
     obtain ⟨hWl,hWn,hWe⟩:=hW.out;rw [hj] at hWe hWn;clear hj;rw [show 64 - 16=48 from rfl] at hWe;have hWl':=aab hWl;have hWn':=aab hWn;have hWe':=aab hWe;clear hWl hWn hWe hW;have BS:=hS.below hb hbs;obtain ⟨q0,q1,q2,q3,q4,q5,q6,q7⟩:=kR BS;clear BS;go_wp2_with fail;have BV:=Blk.new wr 274 (bY s.list).toArray _ rfl;have hb2:=bAl hb (.cells (bY s.list).toArray 274);have BW2:=BW.alloc (.cells (bY s.list).toArray 274);have hnv:W.heap.size<wr.heap.size:=BW.lt;clear hb BW q0 q1 q2 q3 q4 q5 q6 q7;change Code.wp _ _ _ _ (wr.alloc (.cells (bY s.list).toArray 274));generalize wr.alloc (.cells (bY s.list).toArray 274)=w2 at *;generalize wr.heap.size=nv at *;go_loopw [69] (fun i wr=>∃ (t:Nat) (vs:S8),t≤64∧i = .int .i64 t∧Below W.heap.size W wr∧Blk wr W.heap.size 292 (eY ws).toArray∧Blk wr nv 274 (bY vs.list).toArray∧vs.ok∧Hid (vs=zX9 qp ws s t)) (fun i _=>64 - (intOf i).toNat)
     case atStart=>exact ⟨0,s,aao _,rfl,hb2,BW2,BV,hs,aab rfl⟩
     case round =>
      clear hb2 BW2 BV hlt hj16 hj64;obtain ⟨t,vs,ht64,rfl,hb,BW,BV,hvo,hvs⟩:=hrel;by_cases hlt:t<64
      ·obtain ⟨xt,hxt⟩:∃ x,Hid (ws[t]?=some x):=⟨_,aab (aac (by rw [hWn'.out];exact hlt))⟩
       obtain ⟨kt,hkt⟩:∃ x,Hid (qp[t]?=some x):=⟨_,aab (aac (by rw [Gn];exact hlt))⟩
       have hG1:=(hG.below hb).1 t kt hkt.out;have dw:=gQ BW hxt.out;obtain ⟨v0,v1,v2,v3,v4,v5,v6,v7⟩:=kR BV;obtain ⟨o0,o1,o2,o3,o4,o5,o6,o7⟩:=hvo;have gl:2<wr.heap.size:=aaS hG.2.2.1 hb.size;have it:(t:Int)<64:=(by omega);have hl1:=BV.lt;have hl2:=BW.lt;go_wp2_with fail;refine mF wr (aj _) (by kernel_rfl) (by kernel_rfl) ?_
       repeat (go_big_quiet_step (first | (go_at_call 272;exact Ak (Oh _ _ (by assumption)))))
       refine wpQuiet_nil ?_;rintro _ ⟨z,rfl⟩;rw [(Ju vs kt xt o4 o5 o6).out];go_wp2_with fail;refine mF wr (iQ _ _) (by kernel_rfl) (by kernel_rfl) ?_
       repeat (go_big_quiet_step (first | (go_at_call 272;exact Ak (Oi _ _ (by assumption)))))
       refine wpQuiet_nil ?_;rintro _ ⟨z,rfl⟩;rw [(Jv vs o0 o1 o2).out];have hb3:=ah hb (iQ wr z);have BW3:Blk (later wr z) W.heap.size 292 (eY ws).toArray:=BW.below (iQ wr z) BW.lt;have BV3:Blk (later wr z) nv 274 (bY vs.list).toArray:=BV.below (iQ wr z) BV.lt;go_wp2_with fail;clear hG1 dw v0 v1 v2 v3 v4 v5 v6 v7 hb BW BV;generalize later wr z=w3 at *;refine jC 2 (by kernel_rfl) (by kernel_rfl) ?_;simp only [abq,abj,abx,aa3]
       repeat (go_big_quiet_step (fail))
       refine wpQuiet_nil ?_;have hb4:=bDr hb3;have BW4:Blk w3.drew W.heap.size 292 (eY ws).toArray:=BW3.below (bDr (aj w3)) BW3.lt;have BV4:Blk w3.drew nv 274 (bY vs.list).toArray:=BV3.below (bDr (aj w3)) BV3.lt;clear hb3 BW3 BV3;generalize w3.drew=w4 at *;obtain ⟨v0,v1,v2,v3,v4,v5,v6,v7⟩:=kR BV4;refine wpList_copy_splice rfl (.tmp 116) (.tmp 117) 298 298 rfl 88 underlying298 (by kernel_rfl) _ _ _ _ _ _ rfl rfl nv 1 (bY vs.list) 274 BV4 (bY [vs.a,vs.b,vs.c,vs.d,vs.e,vs.f,vs.g]) rfl ?cp (by simp [lV,S8.list]) (by intro v hv;obtain ⟨x,_,rfl⟩:=aaK.1 hv;rfl) nv w4 (Below.refl _ _) (aad _) ?_
       case cp =>
        intro _;refine ⟨rfl,_,rfl,?_⟩;intro j v hj;have hj7:j<7:=by have:=(aag.1 hj).1;simpa [lV] using this
        have ha:(⟨nv,0,none⟩:Addr).add j=⟨nv,j,none⟩:=by
         unfold Addr.add
         split
         ·rename_i h;rw [h]
         ·simp
        rw [ha];have h8:j=0∨j=1∨j=2∨j=3∨j=4∨j=5∨j=6:=(by omega);rcases h8 with rfl | rfl | rfl | rfl | rfl | rfl | rfl
        all_goals
         simp [bY] at hj;subst hj
         assumption
       intro w5 H5 hb5;have BV5:Blk w5 nv 274 (bY [vs.a,vs.a,vs.b,vs.c,vs.d,vs.e,vs.f,vs.g]).toArray:=H5.out;have BW5:Blk w5 W.heap.size 292 (eY ws).toArray:=BW4.below hb5 hnv;have hb6:Below W.heap.size W w5:=hb4.trans (hb5.mono (Nat.le_of_lt hnv));clear v0 v1 v2 v3 v4 v5 v6 v7 BV4 BW4 hb4 hb5 H5;have d0:w5.cell? ⟨nv,0,none⟩=some (.int .u32 vs.a):=BV5.cell 0;have d4:w5.cell? ⟨nv,4,none⟩=some (.int .u32 vs.d):=BV5.cell 4;have z0:=BV5.frozen 0;have z4:=BV5.frozen 4;have hp4:Hid (((vs.d:Int)+(mr vs kt xt:Nat)) % 4294967296=(((vs.d+mr vs kt xt) % 4294967296:Nat):Int)):=(by show _=_;omega);have hp0:Hid (((mr vs kt xt:Nat)+(oN vs:Nat):Int) % 4294967296=(((mr vs kt xt+oN vs) % 4294967296:Nat):Int)):=(by show _=_;omega);have hpl:mr vs kt xt<4294967296:=aaC _ (by decide);have hql:oN vs<4294967296:=aaC _ (by decide);have hrs:=aab (yL hvs.out hkt.out hxt.out);have hok:=aab (DD (k:=kt) (w:=xt) (show vs.ok from ⟨o0,o1,o2,o3,o4,o5,o6,o7⟩));go_wp2_with fail;go_roundw
       case rel =>
        rw [hp4.out,hp0.out];have hne:nv≠W.heap.size:=(by omega);exact ⟨t+1,xN vs kt xt,by omega,by go_num,zQ7 (zQ7 hb6 (Nat.le_of_lt hnv) _) (Nat.le_of_lt hnv) _,(BW5.far (p:=⟨nv,4,none⟩) (Ne.symm hne) _).far (p:=⟨nv,0,none⟩) (Ne.symm hne) _,(BV5.set_ 4 _).set_ 0 _,hok.out,hrs⟩
       case measure=>simp [intOf];omega
      ·have ht:t=64:=by omega
       have hvs':=hvs.out;rw [ht] at hvs';have HVS:=aab hvs';clear ht hvs';have BS:=hS.below hb hbs;go_wp2_with fail;go_loopw [129] (fun i wr=>∃ t:Nat,t≤8∧i = .int .i64 t∧W.grownBy wr (some bs)∧Blk wr nv 274 (bY vs.list).toArray∧Blk wr bs 274 (vM s vs t).toArray) (fun i _=>8 - (intOf i).toNat)
       case atStart=>exact ⟨0,by omega,rfl,pz hb _,BV,BS⟩
       case round =>
        clear hb BW BV BS;obtain ⟨t,ht8,rfl,hg,BV,BS⟩:=hrel;by_cases hlt:t<8
        ·obtain ⟨x,y,hx,hy,hat,hset⟩:=Qq s vs t hlt
         have d1:wr.cell? ⟨bs,t,none⟩=some (.int .u32 x):=(by rw [BS.cell];simpa using hat);have d2:wr.cell? ⟨nv,t,none⟩=some (.int .u32 y):=(by rw [BV.cell];simpa using zT hy);have z1:=BS.frozen t;have it:(t:Int)<8:=(by omega);have hl1:=BV.lt;have hl2:=BS.lt;have hs1:Hid (((x:Int)+y) % 4294967296=(((x+y) % 4294967296:Nat):Int)):=(by show _=_;omega);have Hset:=aab hset;have hne:bs≠nv:=(by omega);have hne':=aab hne;clear hx hy hat hset hne;go_wp2_with fail;refine jC 11 (by kernel_rfl) (by kernel_rfl) ?_;simp only [abq,abj,abx,aa3]
         repeat (go_big_quiet_step (fail))
         refine wpQuiet_nil ?_;go_wp2_with fail;go_roundw
         case rel =>
          rw [hs1.out];refine ⟨t+1,by omega,by go_num,grownBy_trans (grownBy_trans hg (nI wr bs t _)) (pz (bDr (aj _)) _),(BV.far (p:=⟨bs,t,none⟩) (Ne.symm hne'.out) _).below (bDr (aj _)) (by simpa [World.setCell] using hl1),?_⟩;have h:=BS.set_ t (.int .u32 ((x+y) % 4294967296:Nat));rw [aaf,Hset.out] at h;exact h.below (bDr (aj _)) h.lt
         case measure=>simp [intOf];omega
        ·have ht:t=8:=by omega
         rw [ht] at BS;clear ht;go_wp2_with fail;go_end0;refine ⟨rfl,hg,?_⟩
         have e:vM s vs 8=bY (jr s l).list:=by
          unfold jr;rw [←hWe'.out,←HVS.out];rfl
         rw [←e];exact BS
end
section
open Go.ChangeShapes Go.WideShapes Go.ChangeAt Go.RowKit Go.Deep
theorem Qr:ownKnob prog.godebug=none:=by kernel_rfl
theorem Gt:laidOutB prog=true:=by kernel_rfl
section
variable {H:Type} {enc:TypeId×Value→H} {P:Program} {w:World} {base:Nat} {spare:Nat→Bool} {held:Bool}
theorem lW {α:Type} {f:α→List Value} {sz:Nat} (hf:∀ x,(f x).length=sz):∀ l:List α,(l.flatMap f).length=l.length*sz
 | []=>by simp
 | x::l=>by rw [aaF,aan,hf,lW hf l,aas,abh];omega
theorem Jy (a:Addr) (i j:Nat):(a.add i).add j=a.add (i+j):=by
 unfold Addr.add;by_cases hi:i=0 <;> by_cases hj:j=0 <;> simp [hi,hj,aay]
def WY:Option TypeDesc→Bool
 | some (.int .i64)=>true
 | _=>false
def XC (P:Program) (fs:Array Field):Bool:=(List.range fs.size).all fun i=>match fs[i]? with
 | some f=>f.offset==i&&(P.cellsOf f.type==1&&WY (P.underlying f.type))
 | none=>false
theorem Ou (l:List Int):l.flatMap (fun n=>[Value.int .i64 n])=ints l:=by
 induction l with
 | nil=>rfl
 | cons x l ih=>rw [aaF,ih];rfl
end
end
end Go.Proofs.YthbibbkbaphpkaaGreatDoor
