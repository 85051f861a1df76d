/- strings.Builder: WriteString, laid by hand (the kit's tool passes over it: no body of the closure names the types string and interface). -/
import Derived.Test.YtkneghkbgingdaaGreatDoorProg
import Derived.Test.YtkneghkbgingdaaGreatDoorP02
import Derived.Shelf.Strings.BuilderK
import Derived.Laws.OwnMore
import Derived.Laws.Rows
import Derived.Deep.AppendLies
import Derived.RegionTactic
import Derived.Maps.AppendAt
import Derived.OwnWalk
import Derived.Deep.RegionHeld3
import Derived.Deep.Slices
import Derived.Test.YtkneghkbgingdaaGreatDoorRows
import Derived.Test.YtkneghkbgingdaaGreatDoorP00
import Derived.OpenShut
import Derived.Laws.StructEq
import Derived.Lib.SmallJoins
namespace Go.Proofs.YtkneghkbgingdaaGreatDoor
set_option maxRecDepth 100000
set_option maxRecDepth 100000
open Go.RowKit Go.Shelf
def bldRen:Go.Shelf.Ren:=⟨fun | 166=>36 | 240=>69 | 276=>99 | n=>n,fun | 0=>0 | 3=>3 | 4=>4 | 5=>5 | 9=>9 | 20=>20 | 37=>78 | 70=>77 | 72=>80 | 75=>83 | 80=>89 | 164=>157 | n=>n,fun | n=>n⟩
theorem zl8:Lays.n166 Tryz.prog bldRen where
 mixed:=by kernel_rfl
 f166:=Tryz.func36.trans (congrArg some (by kernel_rfl))
 f240:=Tryz.func69.trans (congrArg some (by kernel_rfl))
 f276:=Tryz.func99.trans (congrArg some (by kernel_rfl))
 t0:=Tryz.underlying0
 a0:=Tryz.isAgg0
 z0:=Tryz.sizeOf0
 v0:=Tryz.zeroValue0
 t3:=Tryz.underlying3
 a3:=Tryz.isAgg3
 z3:=Tryz.sizeOf3
 v3:=Tryz.zeroValue3
 t4:=Tryz.underlying4
 a4:=Tryz.isAgg4
 z4:=Tryz.sizeOf4
 v4:=Tryz.zeroValue4
 t9:=Tryz.underlying9
 a9:=Tryz.isAgg9
 z9:=Tryz.sizeOf9
 v9:=Tryz.zeroValue9
 t20:=Tryz.underlying20
 a20:=Tryz.isAgg20
 z20:=Tryz.sizeOf20
 v20:=Tryz.zeroValue20
 t37:=Tryz.underlying78
 a37:=Tryz.isAgg78
 z37:=Tryz.sizeOf78
 v37:=Tryz.zeroValue78
 t70:=Tryz.underlying77
 a70:=Tryz.isAgg77
 z70:=Tryz.sizeOf77
 v70:=Tryz.zeroValue77
 t72:=Tryz.underlying80
 a72:=Tryz.isAgg80
 z72:=Tryz.sizeOf80
 v72:=Tryz.zeroValue80
 t75:=Tryz.underlying83
 a75:=Tryz.isAgg83
 z75:=Tryz.sizeOf83
 v75:=Tryz.zeroValue83
 t164:=Tryz.underlying157
 a164:=Tryz.isAgg157
 z164:=Tryz.sizeOf157
 v164:=Tryz.zeroValue157
theorem znG:Builder.Extra Tryz.prog bldRen where
 sizeBuilder:=by kernel_rfl
 liesBuilder:=by kernel_rfl
 t5:=Tryz.underlying5
 a5:=Tryz.isAgg5
 z5:=Tryz.sizeOf5
 v5:=Tryz.zeroValue5
 infoByte:=by kernel_rfl
 cellsByte:=by kernel_rfl
 sizeByte:=by kernel_rfl
 neB5:=by decide
theorem zmb {T e:TypeId} {B b:Nat} {bs:List Value} {w w':World} (h:Lib.IsBuilderF T e B b bs w) (hb:Ext w w'):Lib.IsBuilderF T e B b bs w':=by
 have key:∀(k:Nat) (o:Obj),w.heap[k]?=some o→w'.heap[k]?=some o:=fun k o hk=>by
  rw [hb.block k (Array.getElem?_eq_some_iff.1 hk).1]
  exact hk
 have at_:∀p,Lib.BuilderAtF T e B b p bs w→Lib.BuilderAtF T e B b p bs w':=fun p ⟨hB,v,hbk,hown,hne⟩ =>
  ⟨hB,v,key _ _ hbk,⟨hown.1,hown.2.imp id fun ⟨g,cap,cur,fz,a,c,d,r⟩=>⟨g,cap,cur,fz,a,c,key _ _ d,r⟩⟩,hne⟩
 exact h.elim (fun x => .inl (at_ _ x)) (fun x => .inr (at_ _ x))
theorem zmm (w:World) (T e:TypeId) (B:Nat) (hB:B≤w.heap.size):Lib.IsBuilderF T e B w.heap.size (Lib.byteCells []) (w.alloc (.cells #[.pointer none,.slice none 0 0] T)) :=
 .inl ⟨hB,.slice none 0 0,heap_alloc_new w _,⟨by simp [Lib.byteCells],.inl ⟨rfl,rfl⟩⟩,by simp [Value.ownBlock]⟩
end Go.Proofs.YtkneghkbgingdaaGreatDoor
/- strings.Builder: WriteByte,laid by hand as WriteString is;what both leave as it was;a builder that a call writes to. -/
namespace Go.Proofs.YtkneghkbgingdaaGreatDoor
set_option maxRecDepth 100000
set_option maxRecDepth 100000
open Go.RowKit Go.Shelf
def bytRen:Go.Shelf.Ren:=⟨fun | 167=>135 | 240=>69 | 276=>99 | n=>n,fun | 0=>0 | 3=>3 | 4=>4 | 5=>5 | 9=>9 | 20=>20 | 37=>78 | 70=>77 | 72=>80 | 75=>83 | 80=>89 | 164=>157 | n=>n,fun | n=>n⟩
theorem zmM:Lays.n167 Tryz.prog bytRen where
 mixed:=by kernel_rfl
 f167:=Tryz.func135.trans (congrArg some (by kernel_rfl))
 f240:=Tryz.func69.trans (congrArg some (by kernel_rfl))
 f276:=Tryz.func99.trans (congrArg some (by kernel_rfl))
 t0:=Tryz.underlying0
 a0:=Tryz.isAgg0
 z0:=Tryz.sizeOf0
 v0:=Tryz.zeroValue0
 t4:=Tryz.underlying4
 a4:=Tryz.isAgg4
 z4:=Tryz.sizeOf4
 v4:=Tryz.zeroValue4
 t5:=Tryz.underlying5
 a5:=Tryz.isAgg5
 z5:=Tryz.sizeOf5
 v5:=Tryz.zeroValue5
 t9:=Tryz.underlying9
 a9:=Tryz.isAgg9
 z9:=Tryz.sizeOf9
 v9:=Tryz.zeroValue9
 t20:=Tryz.underlying20
 a20:=Tryz.isAgg20
 z20:=Tryz.sizeOf20
 v20:=Tryz.zeroValue20
 t37:=Tryz.underlying78
 a37:=Tryz.isAgg78
 z37:=Tryz.sizeOf78
 v37:=Tryz.zeroValue78
 t70:=Tryz.underlying77
 a70:=Tryz.isAgg77
 z70:=Tryz.sizeOf77
 v70:=Tryz.zeroValue77
 t72:=Tryz.underlying80
 a72:=Tryz.isAgg80
 z72:=Tryz.sizeOf80
 v72:=Tryz.zeroValue80
 t75:=Tryz.underlying83
 a75:=Tryz.isAgg83
 z75:=Tryz.sizeOf83
 v75:=Tryz.zeroValue83
 t164:=Tryz.underlying157
 a164:=Tryz.isAgg157
 z164:=Tryz.sizeOf157
 v164:=Tryz.zeroValue157
theorem znH:Builder.Extra Tryz.prog bytRen where
 sizeBuilder:=by kernel_rfl
 liesBuilder:=by kernel_rfl
 t5:=Tryz.underlying5
 a5:=Tryz.isAgg5
 z5:=Tryz.sizeOf5
 v5:=Tryz.zeroValue5
 infoByte:=by kernel_rfl
 cellsByte:=by kernel_rfl
 sizeByte:=by kernel_rfl
 neB5:=by decide
structure WSt (W0 w0:World) (b:Nat) (l:List UInt8) (w:World):Prop where
 bl:Lib.IsBuilderF 80 5 W0.heap.size b (Lib.byteCells l) w
 ex:Ext W0 w
 kp:Lib.OthersKept 5 (some b) w0 w
theorem zkT {e:TypeId} {b:Option Nat} {w w':World} (h:Ext w w'):Lib.OthersKept e b w w':=fun k o hk _ _=>by
 rw [h.block k (Array.getElem?_eq_some_iff.1 hk).1]
 exact hk
theorem WSt.ext {W0 w0 w w':World} {b:Nat} {l:List UInt8} (h:WSt W0 w0 b l w) (hb:Ext w w'):WSt W0 w0 b l w':=⟨zmb h.bl hb,h.ex.trans hb,h.kp.trans (zkT hb)⟩
theorem WSt.base {W0 w0 w1 w:World} {b:Nat} {l:List UInt8} (h:WSt W0 w1 b l w) (k:Lib.OthersKept 5 (some b) w0 w1):WSt W0 w0 b l w:=⟨h.bl,h.ex,k.trans h.kp⟩
theorem WSt.here {W0 w0 w:World} {b:Nat} {l:List UInt8} (h:WSt W0 w0 b l w):WSt W0 w b l w:=⟨h.bl,h.ex,Lib.OthersKept.refl _ _ _⟩
theorem zbg (l:List UInt8):(Lib.byteCells l).length=l.length:=by simp [Lib.byteCells]
theorem zfo {W0 w0 w:World} {b:Nat} {l:List UInt8} (x:UInt8) (c:Int) (hc:(x.toNat:Int)=c) (h:WSt W0 w0 b l w) (hl:l.length≤1000000000) :
  Calls Tryz.prog 135 #[.pointer (some ⟨b,0,none⟩),.int .u8 c] w fun e w'=>e = .returned .nilIface∧WSt W0 w0 b (l++[x]) w':=by
 subst hc
 refine (Any.Builder_WriteByte_k zmM znH W0.heap.size b (Lib.byteCells l) (x.toNat:Int) w h.bl (by rw [zbg];omega) (Below.size h.ex)).mono ?_
 rintro e w' ⟨rfl,h2,h3,h4⟩
 refine ⟨rfl,.inr ?_,Below.trans h.ex h3,h.kp.trans h4⟩
 have e:Lib.byteCells (l++[x])=Lib.byteCells l++[.int .u8 (x.toNat:Int)]:=by simp [Lib.byteCells]
 rw [e]
 exact h2
theorem zgg {W0 w0 w:World} {b:Nat} {l:List UInt8} (x:List UInt8) (h:WSt W0 w0 b l w) (hl:l.length+x.length≤1000000000) :
  Calls Tryz.prog 36 #[.pointer (some ⟨b,0,none⟩),.string ⟨x.toArray⟩] w fun e w'=>e = .returned (.tuple #[.int .i64 x.length,.nilIface])∧WSt W0 w0 b (l++x) w':=by
 have h1:=Any.Builder_WriteString_k zl8 znG W0.heap.size b (Lib.byteCells l) ⟨x.toArray⟩ w h.bl (by rw [zbg,show (⟨x.toArray⟩:ByteArray).size=x.length by simp [ByteArray.size]];omega) (Below.size h.ex)
 refine h1.mono ?_
 rintro e w' ⟨rfl,h2,h3,h4⟩
 refine ⟨by simp [ByteArray.size],.inr ?_,Below.trans h.ex h3,h.kp.trans h4⟩
 have e:Lib.byteCells (l++x)=Lib.byteCells l++Lib.strCells ⟨x.toArray⟩:=by simp [Lib.byteCells,Lib.strCells]
 rw [e]
 exact h2
end Go.Proofs.YtkneghkbgingdaaGreatDoor
/- Slices that read as lists of numbers,for the walks of this claim. -/
namespace Go.Proofs.YtkneghkbgingdaaGreatDoor
set_option maxRecDepth 100000
open Go.RowKit
def But (E:Option Nat) (w w':World):Prop:=w.grownBy w' E
theorem But.size {E:Option Nat} {w w':World} (h:But E w w'):w.heap.size≤w'.heap.size:=World.grownBy.size h
theorem But.refl (E:Option Nat) (w:World):But E w w:=World.grownBy.refl w _
theorem But.trans {E:Option Nat} {a b c:World} (h:But E a b) (k:But E b c):But E a c :=
 ⟨k.os.trans h.os,k.tape.trans h.tape,k.output.trans h.output,Nat.le_trans h.size k.size,fun i hi hne=>(k.block i (Nat.lt_of_lt_of_le hi h.size) hne).trans (h.block i hi hne)⟩
theorem But.of_ext {a b:World} (h:Ext a b) (E:Option Nat):But E a b:=⟨h.os,h.tape,h.output,h.size,fun i hi _=>h.block i hi⟩
theorem But.ext_none {a b:World} (h:But none a b):Ext a b:=⟨h.os,h.tape,h.output,h.size,fun i hi=>h.block i hi (by simp)⟩
theorem But.alloc {E:Option Nat} {a w:World} (h:But E a w) (o:Obj):But E a (w.alloc o):=h.trans (But.of_ext ((Ext.refl _).alloc o) E)
theorem But.setCell {E:Option Nat} {a w:World} (h:But E a w) {p:Addr} (hp:a.heap.size≤p.block) (u:Value):But E a (w.setCell p u) :=
 ⟨h.os,h.tape,h.output,by simpa [World.setCell] using h.size,fun i hi hne=>(Below.heap_setCell w p u i (by rintro rfl;omega)).trans (h.block i hi hne)⟩
theorem But.own {a w:World} {g:Nat} (h:But (some g) a w) {p:Addr} (hp:p.block=g) (u:Value):But (some g) a (w.setCell p u) :=
 ⟨h.os,h.tape,h.output,by simpa [World.setCell] using h.size,fun i hi hne=>(Below.heap_setCell w p u i (by rintro rfl;exact hne (by rw [hp]))).trans (h.block i hi hne)⟩
theorem But.cell {E:Option Nat} {w w':World} (h:But E w w') {p:Addr} (hp:p.block<w.heap.size) (hne:some p.block≠E):w'.cell? p=w.cell? p:=World.cell?_of_block (h.block p.block hp hne)
theorem But.below {E:Option Nat} {w w':World} {B:Nat} (h:But E w w') (hB:B≤w.heap.size) (hE:∀k,E=some k→B≤k):Below B w w' :=
 ⟨h.os,h.tape,h.output,h.size,fun k hk=>h.block k (by omega) (fun e=>by have:=hE k e.symm;omega)⟩
theorem zdO {w:World} {base:Nat} {e:TypeId} {size:Nat} {v:Value} {n:Nat} {xs:List Value} (h:w.ownsRow base e size v n xs):∀k,v.ownBlock=some k→base≤k:=by
 intro k hk
 rcases h.2 with ⟨h1,_⟩ | ⟨g,cap,cur,h1,hb,_⟩
 ·subst h1;simp [Value.ownBlock] at hk
 ·subst h1;simp [Value.ownBlock] at hk;omega
theorem zdh {P:Program} {o:Oper} {a:Act} {K:Act→World→Prop} {Q:Exit→Act→World→Prop} {w wx:World} (T e:TypeId) (z:Value) (size bytes:Nat) {s x:Operand} {v:Value} {k:Nat} (g:Nat) {L:List Value} (news:List Value)
  (ho:o.op = .call { callee := .builtin .append,args:=#[s,x],argTypes:=#[T,T] })
  (ht:P.underlying T=some (.slice e)) (hinfo:(P.info? e).map (fun i=>(i.zero,i.size,i.bytes))=some (some z,size,bytes)) (hzs:z.cells.size=size) (hsz:0<size) (hby:bytes≤1000)
  (hs:a.eval s=v) (hx:a.eval x = .slice (some ⟨g,0,none⟩) 1 1) (hown:wx.ownsRow w.heap.size e size v k L) (hext:Ext w wx)
  (hl:news.length=size) (hc:∀j u,news[j]?=some u→wx.cell? ⟨g,j,none⟩=some u) (h1:∀u∈news,u.oneCell'=true) (hk:k≤1000000)
  (h:∀v' w1,w1.ownsRow w.heap.size e size v' (k+1) (L++news)→Ext w w1→wx.grownBy w1 v.ownBlock→K (a.put o.dst v') w1):o.wp P a wx K Q:=by
 obtain ⟨i0,hi,hz0,hz1,hz2⟩:=info_parts hinfo
 refine wp_append_own _ s x T ho w.heap.size e i0 z size bytes ht hi hz0 hz1 hz2 hzs hsz v k _ hs hown ⟨g,0,none⟩ 1 1 news hx (by omega) ?_ h1 ?_ ?_ (Below.size hext) ?_
 ·intro j u hj
  have:=hc j u hj
  rwa [show ((⟨g,0,none⟩:Addr).add j)=⟨g,j,none⟩ by unfold Addr.add;split <;> simp_all]
 ·unfold maxLen;omega
 ·have:=Nat.mul_le_mul (show k+1≤1000001 by omega) hby
  omega
 ·intro v' w1 hown' hgrow _
  exact h v' w1 hown' (Below.grown hext hgrow (Below.size hext) (zdO hown)) hgrow
theorem zck {P:Program} (w:World) (base:Nat) (t ty e:TypeId) (i:TypeInfo) (size:Nat) (ht:P.underlying t=some (.slice e)) (hi:P.info? e=some i)
  (v:Value) (n:Nat) (xs:List Value) (hown:w.ownsRow base e size v n xs) (c:Nat):(Builtin.append_ #[t,t] ty #[v,.slice none 0 c]).run P w = .ok v w:=by
 rcases hown.2 with ⟨rfl,rfl⟩ | ⟨g,cap,cur,rfl,_,_,hnc,_⟩
 ·simp [Builtin.append_,run_underlying ht,sizeOf,typeInfo,hi,Builtin.lenOf,Builtin.firstCells]
 ·simp [Builtin.append_,run_underlying ht,sizeOf,typeInfo,hi,Builtin.lenOf,Builtin.firstCells,hnc,storeCells]
end Go.Proofs.YtkneghkbgingdaaGreatDoor
/- Slices whose elements are some cells each,for the walks of this claim. -/
namespace Go.Proofs.YtkneghkbgingdaaGreatDoor
set_option maxRecDepth 100000
open Go.RowKit Go.ChangeShapes Go.WideShapes
structure Shp (α:Type) where
 size:Nat
 cells:α→List Value
 pos:0<size
 len:∀x,(cells x).length=size
 one:∀x u,u∈cells x→u.oneCell'=true
section
variable {α:Type} {S:Shp α}
theorem zbK (xs:List α):(xs.flatMap S.cells).length=xs.length*S.size:=by
 induction xs with
 | nil=>simp
 | cons x xs ih=>rw [List.flatMap_cons,List.length_append,ih,S.len,List.length_cons,Nat.add_mul,Nat.one_mul,Nat.add_comm]
theorem zcy:∀(xs:List α) (k i:Nat),i<S.size→(xs.flatMap S.cells)[k*S.size+i]?=xs[k]?.bind (fun x=>(S.cells x)[i]?):=by
 intro xs
 induction xs with
 | nil=>intro k i _;simp
 | cons x xs ih =>
  intro k i hi
  rw [List.flatMap_cons]
  cases k with
  | zero=>rw [Nat.zero_mul,Nat.zero_add,List.getElem?_append_left (by rw [S.len];exact hi)];rfl
  | succ k =>
   have e:(k+1)*S.size+i=S.size+(k*S.size+i):=by rw [Nat.add_mul,Nat.one_mul];omega
   rw [List.getElem?_append_right (by rw [S.len,e];omega),S.len,e,Nat.add_sub_cancel_left,ih k i hi];rfl
def Vec (S:Shp α) (w:World) (A:Option Addr) (n:Nat) (xs:List α):Prop :=
 xs.length=n∧(0<n→∃b off,A=some ⟨b,off,none⟩∧b<w.heap.size∧∀k x,xs[k]?=some x→∀i u,(S.cells x)[i]?=some u→w.cell? ⟨b,off+(k*S.size+i),none⟩=some u)
variable {w w':World} {A:Option Addr} {n:Nat} {xs:List α}
theorem Vec.len (h:Vec S w A n xs):xs.length=n:=h.1
theorem Vec.none_ (S:Shp α) (w:World) (A:Option Addr):Vec S w A 0 []:=⟨rfl,fun h=>absurd h (by omega)⟩
theorem Vec.keep (h:Vec S w A n xs) (hz:w.heap.size≤w'.heap.size) (hk:∀b off,A=some ⟨b,off,none⟩→∀o,w'.cell? ⟨b,o,none⟩=w.cell? ⟨b,o,none⟩):Vec S w' A n xs :=
 ⟨h.1,fun hn=>by
  obtain ⟨b,off,e,hb,hc⟩:=h.2 hn
  exact ⟨b,off,e,by omega,fun k x hx i u hu=>(hk b off e _).trans (hc k x hx i u hu)⟩⟩
theorem Vec.ext (h:Vec S w A n xs) (hb:Ext w w'):Vec S w' A n xs :=
 ⟨h.1,fun hn=>by
  obtain ⟨b,off,e,hlt,hc⟩:=h.2 hn
  exact ⟨b,off,e,Nat.lt_of_lt_of_le hlt (Below.size hb),fun k x hx i u hu=>(Below.cell (p:=⟨b,off+(k*S.size+i),none⟩) hb hlt).trans (hc k x hx i u hu)⟩⟩
theorem Vec.but {g:Nat} (h:Vec S w A n xs) (hb:But (some g) w w') (hne:∀off,0<n→A≠some ⟨g,off,none⟩):Vec S w' A n xs :=
 ⟨h.1,fun hn=>by
  obtain ⟨b,off,e,hlt,hc⟩:=h.2 hn
  have hg:some b≠some g:=by rintro e2;cases e2;exact hne off hn e
  exact ⟨b,off,e,Nat.lt_of_lt_of_le hlt hb.size,fun k x hx i u hu=>(hb.cell (p:=⟨b,off+(k*S.size+i),none⟩) hlt hg).trans (hc k x hx i u hu)⟩⟩
theorem zju {a:Addr} {u:Value} (h:w.cell? a=some u):a.spot=none:=by
 obtain ⟨b,o,s⟩:=a
 cases s with
 | none=>rfl
 | some s =>
  simp only [World.cell?] at h
  split at h <;> simp at h
theorem zb1 (b off j:Nat):((⟨b,off,none⟩:Addr).add j)=⟨b,off+j,none⟩:=by
 unfold Addr.add;split <;> simp_all
theorem Vec.of_add (hl:xs.length=n) (h:0<n→∃ad,A=some ad∧ad.block<w.heap.size∧∀k x,xs[k]?=some x→∀i u,(S.cells x)[i]?=some u→w.cell? (ad.add (k*S.size+i))=some u):Vec S w A n xs:=by
 refine ⟨hl,fun hn=>?_⟩
 obtain ⟨ad,e,hb,hc⟩:=h hn
 obtain ⟨x0,h0⟩:∃x,xs[0]?=some x:=⟨xs[0]'(by omega),List.getElem?_eq_getElem (by omega)⟩
 obtain ⟨u0,hu0⟩:∃u,(S.cells x0)[0]?=some u:=⟨(S.cells x0)[0]'(by rw [S.len];exact S.pos),List.getElem?_eq_getElem (by rw [S.len];exact S.pos)⟩
 have h1:=hc 0 x0 h0 0 u0 hu0
 rw [show ad.add (0*S.size+0)=ad by simp [Addr.add]] at h1
 have hs:=zju h1
 obtain ⟨b,off,spot⟩:=ad
 obtain rfl:spot=none:=hs
 exact ⟨b,off,e,hb,fun k x hx i u hu=>by rw [←zb1];exact hc k x hx i u hu⟩
def OwnV (S:Shp α) (w:World) (B:Nat) (e:TypeId) (v:Value) (k:Nat) (L:List α):Prop:=w.ownsRow B e S.size v k (L.flatMap S.cells)
theorem OwnV.nil (S:Shp α) (w:World) (B:Nat) (e:TypeId):OwnV S w B e (.slice none 0 0) 0 []:=World.ownsRow_nil _ _ _ _
theorem OwnV.alloc {B:Nat} {e:TypeId} {v:Value} {k:Nat} {L:List α} (h:OwnV S w B e v k L) (o:Obj):OwnV S (w.alloc o) B e v k L:=World.ownsRow.alloc h o
theorem OwnV.drew {B:Nat} {e:TypeId} {v:Value} {k:Nat} {L:List α} (h:OwnV S w B e v k L):OwnV S w.drew B e v k L:=World.ownsRow.drew h
theorem OwnV.drewN {B:Nat} {e:TypeId} {v:Value} {k:Nat} {L:List α} (h:OwnV S w B e v k L) (n:Nat):OwnV S (w.drewN n) B e v k L:=h
theorem OwnV.ext {B:Nat} {e:TypeId} {v:Value} {k:Nat} {L:List α} (h:OwnV S w B e v k L) (hb:Ext w w'):OwnV S w' B e v k L :=
 World.ownsRow.kept h (But.of_ext hb none) (by cases v.ownBlock <;> simp)
theorem OwnV.len {B:Nat} {e:TypeId} {v:Value} {k:Nat} {L:List α} (h:OwnV S w B e v k L):L.length=k:=by
 have:=h.1
 rw [zbK] at this
 exact Nat.eq_of_mul_eq_mul_right S.pos this
theorem Vec.of_own {B:Nat} {e:TypeId} {k c:Nat} {A:Option Addr} {L:List α} (h:OwnV S w B e (.slice A k c) k L):Vec S w A k L:=by
 refine ⟨h.len,fun hn=>?_⟩
 obtain ⟨g,cap,hv,_,hlt⟩:=World.ownsRow.form h hn
 simp only [Value.slice.injEq,true_and] at hv
 obtain ⟨hA,hc⟩:=hv
 subst hA
 refine ⟨g,0,rfl,hlt,fun j x hx i u hu=>?_⟩
 have hi:i<S.size:=by rw [←S.len x];exact (List.getElem?_eq_some_iff.1 hu).1
 have hj:j<k:=by rw [←h.len];exact (List.getElem?_eq_some_iff.1 hx).1
 have hb:j*S.size+i<k*S.size:=by
  have:=Nat.mul_le_mul_right S.size (show j+1≤k by omega)
  rw [Nat.add_mul,Nat.one_mul] at this
  omega
 rw [Nat.zero_add,World.ownsRow.cellAt h _ hb,zcy _ _ _ hi,hx]
 exact hu
theorem zcf {B k:Nat} {e:TypeId} {v:Value} {L:List α} (h:OwnV S w B e v k L):∃A c,v = .slice A k c∧Vec S w A k L:=by
 rcases h.2 with ⟨h1,h2⟩ | ⟨g,cap,cur,h1,_⟩
 ·subst h2
  subst h1
  exact ⟨none,0,rfl,Vec.of_own h⟩
 ·subst h1
  exact ⟨_,_,rfl,Vec.of_own h⟩
section
variable {P:Program} {ops:Array Oper} {rest:List Oper} {o:Oper} {a:Act} {K:Act→World→Prop} {Q:Exit→Act→World→Prop} {E:Prop} {wx:World}
theorem zdN (T e:TypeId) (z:Value) (bytes:Nat) {s x:Operand} {v:Value} {k:Nat} (g:Nat) {L:List α} (X:α)
  (ho:o.op = .call { callee := .builtin .append,args:=#[s,x],argTypes:=#[T,T] })
  (ht:P.underlying T=some (.slice e)) (hinfo:(P.info? e).map (fun i=>(i.zero,i.size,i.bytes))=some (some z,S.size,bytes)) (hzs:z.cells.size=S.size) (hby:bytes≤1000)
  (hs:a.eval s=v) (hx:a.eval x = .slice (some ⟨g,0,none⟩) 1 1) (hown:OwnV S wx w.heap.size e v k L) (hext:Ext w wx)
  (hc:∀j u,(S.cells X)[j]?=some u→wx.cell? ⟨g,j,none⟩=some u) (hk:k≤1000000)
  (h:∀v' w1,OwnV S w1 w.heap.size e v' (k+1) (L++[X])→Hid (Ext w w1)→wx.grownBy w1 v.ownBlock→K (a.put o.dst v') w1):o.wp P a wx K Q:=by
 refine zdh T e z S.size bytes g (S.cells X) ho ht hinfo hzs S.pos hby hs hx hown hext (S.len X) hc (S.one X) hk ?_
 intro v' w1 h1 h2 h3
 exact h v' w1 (by unfold OwnV;rw [List.flatMap_append];simpa using h1) h2 h3
theorem zaV (T e:TypeId) (z:Value) (bytes:Nat) {s x:Operand} {v:Value} {k:Nat} (g:Nat) {L:List α} (X:α)
  (hgd:o.guard=none) (ho:o.op = .call { callee := .builtin .append,args:=#[s,x],argTypes:=#[T,T] })
  (ht:P.underlying T=some (.slice e)) (hinfo:(P.info? e).map (fun i=>(i.zero,i.size,i.bytes))=some (some z,S.size,bytes)) (hzs:z.cells.size=S.size) (hby:bytes≤1000)
  (hs:a.eval s=v) (hx:a.eval x = .slice (some ⟨g,0,none⟩) 1 1) (hown:OwnV S wx w.heap.size e v k L) (hext:Ext w wx)
  (hc:∀j u,(S.cells X)[j]?=some u→wx.cell? ⟨g,j,none⟩=some u) (hk:k≤1000000)
  (h:∀v' w1,OwnV S w1 w.heap.size e v' (k+1) (L++[X])→Hid (Ext w w1)→wpList P ops Q rest (a.put o.dst v') w1):wpList P ops Q (o::rest) a wx :=
 wpList_plain hgd fun _ hK=>zdN T e z bytes g X ho ht hinfo hzs hby hs hx hown hext hc hk fun v' w' h2 h3 _=>hK _ _ (h v' w' h2 h3)
theorem Vec.cells_at {ad:Addr} (hxs:Vec S wx (some ad) n xs):∀j u,(xs.flatMap S.cells)[j]?=some u→wx.cell? (ad.add j)=some u:=by
 intro j u hu
 have hj:=(List.getElem?_eq_some_iff.1 hu).1
 rw [zbK,hxs.1] at hj
 have hn:0<n:=Nat.pos_of_ne_zero (by rintro rfl;rw [Nat.zero_mul] at hj;exact absurd hj (Nat.not_lt_zero _))
 obtain ⟨b,off,hA,_,hc⟩:=hxs.2 hn
 cases hA
 have e:j=j / S.size*S.size+j % S.size:=by rw [Nat.mul_comm];exact (Nat.div_add_mod j S.size).symm
 have hi:=Nat.mod_lt j S.pos
 rw [e,zcy _ _ _ hi] at hu
 obtain ⟨x,hx,hu⟩:=Option.bind_eq_some_iff.1 hu
 rw [zb1,e]
 exact hc _ x hx _ u hu
end
theorem Vec.lit (w:World) (L:List α) (t:TypeId):Vec S (w.alloc (.cells (L.flatMap S.cells).toArray t)) (some ⟨w.heap.size,0,none⟩) L.length L:=by
 refine ⟨rfl,fun hn=>⟨w.heap.size,0,rfl,by simp,fun k x hx i u hu=>?_⟩⟩
 have hi:i<S.size:=by rw [←S.len x];exact (List.getElem?_eq_some_iff.1 hu).1
 have h:(w.alloc (.cells (L.flatMap S.cells).toArray t)).heap[w.heap.size]?=some (.cells (L.flatMap S.cells).toArray t):=heap_alloc_new w _
 rw [Nat.zero_add,cell_of_row _ w.heap.size _ _ t (0,0) h,List.getElem?_toArray,zcy _ _ _ hi,hx]
 exact hu
theorem Vec.lit2 {L:List α} {t:TypeId} {g n:Nat} {cs:Array Value} (hg:g=w.heap.size) (hc:cs=(L.flatMap S.cells).toArray) (hn:n=L.length):Vec S (w.alloc (.cells cs t)) (some ⟨g,0,none⟩) n L:=by
 subst hg;subst hc;subst hn;exact Vec.lit w L t
end
section
variable {α:Type} {S:Shp α} {H:Type} {enc:TypeId×Value→H} {P:Program} {w:World} {base:Nat} {spare:Nat→Bool} {held:Bool}
end
end Go.Proofs.YtkneghkbgingdaaGreatDoor
/- Lists of stitches in memory. -/
namespace Go.Proofs.YtkneghkbgingdaaGreatDoor
set_option maxRecDepth 100000
open Go.RowKit Go.ChangeShapes Go.WideShapes Go.Joins
def stc (s:St):List Value:=[.int .u8 s.k,.bool s.p,.int .i64 s.a,.int .i64 s.b]
def shSt:Shp St where
 size:=4
 cells:=stc
 pos:=by omega
 len _:=rfl
 one p u h:=by
  simp [stc] at h
  rcases h with h | h | h | h <;> subst h <;> rfl
theorem za0:(Tryz.prog.info? 132).map (fun i=>(i.zero,i.size,i.bytes))=some (some (.agg #[.int .u8 0,.bool false,.int .i64 0,.int .i64 0]),4,24):=by kernel_rfl
theorem Sts.all {w:World} {A:Option Addr} {n:Nat} {xs:List St} (h:Vec shSt w A n xs) (hn:0<n) :
  ∃b off,A=some ⟨b,off,none⟩∧b<w.heap.size∧∀k,k<n→w.cell? ⟨b,off+k*4,none⟩=some (.int .u8 (xs.getD k st0).k)∧w.cell? ⟨b,off+k*4+1,none⟩=some (.bool (xs.getD k st0).p) ∧
   w.cell? ⟨b,off+k*4+2,none⟩=some (.int .i64 (xs.getD k st0).a)∧w.cell? ⟨b,off+k*4+3,none⟩=some (.int .i64 (xs.getD k st0).b):=by
 obtain ⟨b,off,e,hb,hc⟩:=h.2 hn
 have hl:=h.1
 refine ⟨b,off,e,hb,fun k hk=>?_⟩
 have hx:=znC (l:=xs) (k:=k) (by omega)
 exact ⟨hc k _ hx 0 _ rfl,hc k _ hx 1 _ rfl,hc k _ hx 2 _ rfl,hc k _ hx 3 _ rfl⟩
theorem zaw (x:Int) (y:Bool) (z t x':Int) (y':Bool) (z' t':Int) (w:World) :
  (Op.equalIn 10000 132 (.agg #[.int .u8 x,.bool y,.int .i64 z,.int .i64 t]) (.agg #[.int .u8 x',.bool y',.int .i64 z',.int .i64 t'])).run Tryz.prog w = .ok (x==x' && (y==y' && (z==z' && t==t'))) w:=by
 rw [run_equalIn_agg (P:=Tryz.prog) w 9999 132 _ _ (by kernel_rfl) (by kernel_rfl)]
 simp [Op.eqFields,Program.fieldsOf,Tryz.underlying132,go_sem,part,Tryz.underlying5,Tryz.underlying4,Tryz.underlying3]
 by_cases h1:x=x' <;> by_cases h2:y=y' <;> by_cases h3:z=z' <;> by_cases h4:t=t' <;> simp [h1,h2,h3,h4]
theorem zbm {x:Int} {y:Bool} {z t x':Int} {y':Bool} {z' t':Int} (h:¬(⟨x,y,z,t⟩:St)=⟨x',y',z',t'⟩) (w:World) :
  (binOp .neq 132 (.agg #[.int .u8 x,.bool y,.int .i64 z,.int .i64 t]) (.agg #[.int .u8 x',.bool y',.int .i64 z',.int .i64 t'])).run Tryz.prog w = .ok (.bool true) w:=by
 rw [run_neq_struct,zaw]
 have:(x==x' && (y==y' && (z==z' && t==t')))=false:=by
  cases e:(x==x' && (y==y' && (z==z' && t==t')))
  ·rfl
  ·simp at e
   obtain ⟨rfl,rfl,rfl,rfl⟩:=e
   exact absurd rfl h
 rw [this]
 rfl
theorem zbz {x:Int} {y:Bool} {z t x':Int} {y':Bool} {z' t':Int} (h:¬(⟨x,y,z,t⟩:St)=⟨x',y',z',t'⟩) (w:World) :
  (binOp .eql 132 (.agg #[.int .u8 x,.bool y,.int .i64 z,.int .i64 t]) (.agg #[.int .u8 x',.bool y',.int .i64 z',.int .i64 t'])).run Tryz.prog w = .ok (.bool false) w:=by
 rw [run_eql_struct,zaw]
 have:(x==x' && (y==y' && (z==z' && t==t')))=false:=by
  cases e:(x==x' && (y==y' && (z==z' && t==t')))
  ·rfl
  ·simp at e
   obtain ⟨rfl,rfl,rfl,rfl⟩:=e
   exact absurd rfl h
 rw [this]
 rfl
section
variable {H:Type} {enc:TypeId×Value→H} {w:World} {base:Nat} {spare:Nat→Bool} {held:Bool}
end
end Go.Proofs.YtkneghkbgingdaaGreatDoor
