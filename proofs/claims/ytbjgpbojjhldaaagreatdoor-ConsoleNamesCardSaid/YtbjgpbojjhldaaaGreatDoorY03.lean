/- Slices that read as lists of numbers, for the walks of this claim. -/
import Derived.Laws.OwnMore
import Derived.Laws.Rows
import Derived.Deep.AppendLies
import Derived.RegionTactic
import Derived.Maps.AppendAt
import Derived.OwnWalk
import Derived.Deep.RegionHeld3
import Derived.Deep.Slices
import Derived.Laws.StructEq
import Derived.Test.YtbjgpbojjhldaaaGreatDoorY02
import Derived.Lib.AtoiBound
import Derived.Lib.AppendIntMem
import Derived.Lib.AtoiErrMem
namespace Go.Proofs.YtbjgpbojjhldaaaGreatDoor
set_option maxRecDepth 100000
open Go.RowKit
def Ints (w:World) (A:Option Addr) (n:Nat) (xs:List Int):Prop :=
 xs.length=n/\(0<n->∃b off,A=some ⟨b,off,none⟩/\b<w.heap.size/\∀j,j<n->w.cell? ⟨b,off+j,none⟩=some (.int .i64 (xs.getD j 0)))
theorem Ints.len {w:World} {A:Option Addr} {n:Nat} {xs:List Int} (h:Ints w A n xs):xs.length=n:=h.1
theorem Ints.none_ (w:World) (A:Option Addr):Ints w A 0 []:=⟨rfl,fun h=>absurd h (by omega)⟩
theorem Ints.keep {w w':World} {A:Option Addr} {n:Nat} {xs:List Int} (h:Ints w A n xs) (hz:w.heap.size<=w'.heap.size) (hk:∀p:Addr,p.block<w.heap.size->w'.cell? p=w.cell? p):Ints w' A n xs :=
 ⟨h.1,fun hn=>by
  obtain ⟨b,off,e,hb,hc⟩:=h.2 hn
  exact ⟨b,off,e,by omega,fun j hj=>(hk ⟨b,off+j,none⟩ hb).trans (hc j hj)⟩⟩
theorem Ints.ext {w w':World} {A:Option Addr} {n:Nat} {xs:List Int} (h:Ints w A n xs) (hb:Ext w w'):Ints w' A n xs :=
 h.keep (Zt hb) fun _ hp=>Zl hb hp
theorem Ints.of_own {w:World} {base:Nat} {e:TypeId} {n c:Nat} {A:Option Addr} {xs:List Int} (h:w.ownsRow base e 1 (.slice A n c) n (xs.map (Value.int .i64))):Ints w A n xs:=by
 have hl:xs.length=n:=by simpa using h.1
 refine ⟨hl,fun hn=>?_⟩
 obtain ⟨g,cap,hv,_,hlt⟩:=h.form hn
 simp only [Value.slice.injEq,true_and] at hv
 obtain ⟨hA,hc⟩:=hv
 subst hA
 refine ⟨g,0,rfl,hlt,fun j hj=>?_⟩
 have aa:j<xs.length:=by omega
 have:=h.cellAt j (by omega)
 rw [Nat.zero_add,this,List.getElem?_map,Zf aa,Zd,Zf aa]
 rfl
def But (E:Option Nat) (w w':World):Prop:=w.grownBy w' E
theorem But.size {E:Option Nat} {w w':World} (h:But E w w'):w.heap.size<=w'.heap.size:=World.grownBy.size h
theorem But.refl (E:Option Nat) (w:World):But E w w:=World.grownBy.refl w _
theorem But.trans {E:Option Nat} {a b c:World} (h:But E a b) (k:But E b c):But E a c :=
 ⟨k.os.trans h.os,k.tape.trans h.tape,k.output.trans h.output,Zv h.size k.size,fun i hi hne=>(k.block i (Zi hi h.size) hne).trans (h.block i hi hne)⟩
theorem But.of_ext {a b:World} (h:Ext a b) (E:Option Nat):But E a b:=⟨h.os,h.tape,h.output,h.size,fun i hi _=>h.block i hi⟩
theorem But.ext_none {a b:World} (h:But none a b):Ext a b:=⟨h.os,h.tape,h.output,h.size,fun i hi=>h.block i hi (by simp)⟩
theorem But.alloc {E:Option Nat} {a w:World} (h:But E a w) (o:Obj):But E a (w.alloc o):=h.trans (But.of_ext ((Ze _).alloc o) E)
theorem But.setCell {E:Option Nat} {a w:World} (h:But E a w) {p:Addr} (hp:a.heap.size<=p.block) (u:Value):But E a (w.setCell p u) :=
 ⟨h.os,h.tape,h.output,by simpa [World.setCell] using h.size,fun i hi hne=>(Below.heap_setCell w p u i (by rintro rfl;omega)).trans (h.block i hi hne)⟩
theorem But.own {a w:World} {g:Nat} (h:But (some g) a w) {p:Addr} (hp:p.block=g) (u:Value):But (some g) a (w.setCell p u) :=
 ⟨h.os,h.tape,h.output,by simpa [World.setCell] using h.size,fun i hi hne=>(Below.heap_setCell w p u i (by rintro rfl;exact hne (by rw [hp]))).trans (h.block i hi hne)⟩
theorem But.cell {E:Option Nat} {w w':World} (h:But E w w') {p:Addr} (hp:p.block<w.heap.size) (hne:some p.block≠E):w'.cell? p=w.cell? p:=World.cell?_of_block (h.block p.block hp hne)
theorem But.below {E:Option Nat} {w w':World} {B:Nat} (h:But E w w') (hB:B<=w.heap.size) (hE:∀k,E=some k->B<=k):Below B w w' :=
 ⟨h.os,h.tape,h.output,h.size,fun k hk=>h.block k (by omega) (fun e=>by have:=hE k e.symm;omega)⟩
def RowV (w:World) (g n:Nat) (f:Nat->Value):Prop:=g<w.heap.size/\∀j,j<n->w.cell? ⟨g,j,none⟩=some (f j)/\w.frozen? ⟨g,j,none⟩=false
theorem RowV.lt {w:World} {g n:Nat} {f:Nat->Value} (h:RowV w g n f):g<w.heap.size:=h.1
theorem RowV.at_ {w:World} {g n:Nat} {f:Nat->Value} (h:RowV w g n f) {j:Nat} (hj:j<n):w.cell? ⟨g,j,none⟩=some (f j):=(h.2 j hj).1
theorem RowV.free {w:World} {g n:Nat} {f:Nat->Value} (h:RowV w g n f) {j:Nat} (hj:j<n):w.frozen? ⟨g,j,none⟩=false:=(h.2 j hj).2
theorem RowV.but {w w':World} {g n:Nat} {f:Nat->Value} {E:Option Nat} (h:RowV w g n f) (hb:But E w w') (hne:some g≠E):RowV w' g n f :=
 ⟨Zi h.1 hb.size,fun j hj=>⟨(hb.cell (p:=⟨g,j,none⟩) h.1 hne).trans (h.2 j hj).1,(World.frozen?_of_block (hb.block g h.1 hne)).trans (h.2 j hj).2⟩⟩
theorem RowV.ext {w w':World} {g n:Nat} {f:Nat->Value} (h:RowV w g n f) (hb:Ext w w'):RowV w' g n f:=h.but (But.of_ext hb none) (by simp)
theorem RowV.set {w:World} {g n k:Nat} {f:Nat->Value} (h:RowV w g n f) (hk:k<n) (v:Value):RowV (w.setCell ⟨g,k,none⟩ v) g n (fun j=>if j=k then v else f j):=by
 refine ⟨by simpa [World.setCell] using h.1,fun j hj=>⟨?_,?_⟩⟩
 ·by_cases e:j=k
  ·subst e
   simp only [if_true]
   exact Zq w ⟨g,j,none⟩ _ (h.2 j hj).1
  ·simp only [if_neg e]
   rw [Zg w ⟨g,k,none⟩ ⟨g,j,none⟩ _ (fun h=>e (by cases h;rfl))]
   exact (h.2 j hj).1
 ·rw [Zo]
  exact (h.2 j hj).2
theorem RowV.congr {w:World} {g n:Nat} {f f':Nat->Value} (h:RowV w g n f) (e:∀j,j<n->f j=f' j):RowV w g n f' :=
 ⟨h.1,fun j hj=>by rw [<-e j hj];exact h.2 j hj⟩
theorem RowV.of_own {w:World} {base g n c:Nat} {e:TypeId} {size:Nat} {xs:List Value} (h:w.ownsRow base e size (.slice (some ⟨g,0,none⟩) n c) n xs):RowV w g (n*size) (fun j=>xs.getD j undef):=by
 have hlt:g<w.heap.size:=by
  rcases h.2 with ⟨h',_⟩ | ⟨g',cap',cur,h',_,hg,_⟩
  ·simp at h'
  ·simp only [Value.slice.injEq,Option.some.injEq,Addr.mk.injEq,and_true,true_and] at h'
   obtain ⟨rfl,rfl⟩:=h'
   exact (Zh.1 hg).1
 refine ⟨hlt,fun j hj=>⟨?_,h.frozenAt j⟩⟩
 have hl:j<xs.length:=by rw [h.1];exact hj
 simp only [h.cellAt j hj,Zd,Zf hl]
 rfl
theorem RowV.made {w:World} {base g n:Nat} {e:TypeId} (z:Value) (hz:z.cells=#[z]) (h:w.ownsRow base e 1 (.slice (some ⟨g,0,none⟩) n n) n (madeCells z.cells (n*1)).toList):RowV w g n (fun _=>z):=by
 have:=RowV.of_own h
 rw [Nat.mul_one] at this
 refine this.congr fun j hj=>?_
 simp [madeCells,hz,hj,Nat.mod_one]
theorem Ints.of_row {w:World} {g n:Nat} {f:Nat->Int} (h:RowV w g n (fun j => .int .i64 (f j))):Ints w (some ⟨g,0,none⟩) n ((List.range n).map f) :=
 ⟨by simp,fun _=>⟨g,0,rfl,h.1,fun j hj=>by
  rw [Nat.zero_add,h.at_ hj]
  simp [List.getD_eq_getElem?_getD,hj]⟩⟩
theorem zc3 {w:World} {base:Nat} {e:TypeId} {size:Nat} {v:Value} {n:Nat} {xs:List Value} (h:w.ownsRow base e size v n xs):∀k,v.ownBlock=some k->base<=k:=by
 intro k hk
 rcases h.2 with ⟨h1,_⟩ | ⟨g,cap,cur,h1,hb,_⟩
 ·subst h1;simp [Value.ownBlock] at hk
 ·subst h1;simp [Value.ownBlock] at hk;omega
theorem zbQ {P:Program} {o:Oper} {a:Act} {K:Act->World->Prop} {Q:Exit->Act->World->Prop} {w wx:World} (T e:TypeId) (z:Value) (size bytes:Nat) {s x:Operand} {v:Value} {k:Nat} (g:Nat) {L:List Value} (news:List Value)
  (ho:o.op = .call { callee := .builtin .append,args:=#[s,x],argTypes:=#[T,T] })
  (ht:P.underlying T=some (.slice e)) (hinfo:(P.info? e).map (fun i=>(i.zero,i.size,i.bytes))=some (some z,size,bytes)) (hzs:z.cells.size=size) (hsz:0<size) (hby:bytes<=1000)
  (hs:a.eval s=v) (hx:a.eval x = .slice (some ⟨g,0,none⟩) 1 1) (hown:wx.ownsRow w.heap.size e size v k L) (hext:Ext w wx)
  (hl:news.length=size) (hc:∀j u,news[j]?=some u->wx.cell? ⟨g,j,none⟩=some u) (h1:∀u∈news,u.oneCell'=true) (hk:k<=1000000)
  (h:∀v' w1,w1.ownsRow w.heap.size e size v' (k+1) (L++news)->Ext w w1->wx.grownBy w1 v.ownBlock->K (a.put o.dst v') w1):o.wp P a wx K Q:=by
 obtain ⟨i0,hi,ac,hz1,ad⟩:=info_parts hinfo
 refine wp_append_own _ s x T ho w.heap.size e i0 z size bytes ht hi ac hz1 ad hzs hsz v k _ hs hown ⟨g,0,none⟩ 1 1 news hx (by omega) ?_ h1 ?_ ?_ (Zt hext) ?_
 ·intro j u hj
  have:=hc j u hj
  rwa [show ((⟨g,0,none⟩:Addr).add j)=⟨g,j,none⟩ by unfold Addr.add;split <;> simp_all]
 ·unfold maxLen;omega
 ·have:=Nat.mul_le_mul (show k+1<=1000001 by omega) hby
  omega
 ·intro v' w1 ab aa _
  exact h v' w1 ab (Below.grown hext aa (Zt hext) (zc3 hown)) aa
def OwnI (w:World) (B:Nat) (e:TypeId) (v:Value) (k:Nat) (L:List Int):Prop:=w.ownsRow B e 1 v k (L.map (Value.int .i64))
theorem OwnI.nil (w:World) (B:Nat) (e:TypeId):OwnI w B e (.slice none 0 0) 0 []:=World.ownsRow_nil _ _ _ _
theorem OwnI.alloc {w:World} {B:Nat} {e:TypeId} {v:Value} {k:Nat} {L:List Int} (h:OwnI w B e v k L) (o:Obj):OwnI (w.alloc o) B e v k L:=World.ownsRow.alloc h o
theorem OwnI.drew {w:World} {B:Nat} {e:TypeId} {v:Value} {k:Nat} {L:List Int} (h:OwnI w B e v k L):OwnI w.drew B e v k L:=World.ownsRow.drew h
theorem ze1 {P:Program} {o:Oper} {a:Act} {K:Act->World->Prop} {Q:Exit->Act->World->Prop} {w wx:World} (T e:TypeId) {s x:Operand} {v:Value} {k:Nat} (g:Nat) {L:List Int} (X:Int)
  (ho:o.op = .call { callee := .builtin .append,args:=#[s,x],argTypes:=#[T,T] })
  (ht:P.underlying T=some (.slice e)) (hinfo:(P.info? e).map (fun i=>(i.zero,i.size,i.bytes))=some (some (.int .i64 0),1,8))
  (hs:a.eval s=v) (hx:a.eval x = .slice (some ⟨g,0,none⟩) 1 1) (hown:OwnI wx w.heap.size e v k L) (hext:Ext w wx) (hc:wx.cell? ⟨g,0,none⟩=some (.int .i64 X)) (hk:k<=1000000)
  (h:∀v' w1,OwnI w1 w.heap.size e v' (k+1) (L++[X])->Hid (Ext w w1)->wx.grownBy w1 v.ownBlock->K (a.put o.dst v') w1):o.wp P a wx K Q:=by
 refine zbQ T e (.int .i64 0) 1 8 g [.int .i64 X] ho ht hinfo rfl (by omega) (by omega) hs hx hown hext rfl ?_ ?_ hk ?_
 ·intro j u hj
  match j,hj with
  | 0,hj=>simp at hj;subst hj;exact hc
 ·intro u hu;simp at hu;subst hu;rfl
 ·intro v' w1 h1 h2 h3
  exact h v' w1 (by unfold OwnI;rw [List.map_append];exact h1) h2 h3
theorem zax {P:Program} {ops:Array Oper} {rest:List Oper} {o:Oper} {a:Act} {Q:Exit->Act->World->Prop} {w wx:World} (T e:TypeId) {s x:Operand} {v:Value} {k:Nat} (g:Nat) {L:List Int} (X:Int)
  (hgd:o.guard=none) (ho:o.op = .call { callee := .builtin .append,args:=#[s,x],argTypes:=#[T,T] })
  (ht:P.underlying T=some (.slice e)) (hinfo:(P.info? e).map (fun i=>(i.zero,i.size,i.bytes))=some (some (.int .i64 0),1,8))
  (hs:a.eval s=v) (hx:a.eval x = .slice (some ⟨g,0,none⟩) 1 1) (hown:OwnI wx w.heap.size e v k L) (hext:Ext w wx) (hc:wx.cell? ⟨g,0,none⟩=some (.int .i64 X)) (hk:k<=1000000)
  (h:∀v' w1,OwnI w1 w.heap.size e v' (k+1) (L++[X])->Hid (Ext w w1)->wpList P ops Q rest (a.put o.dst v') w1) :
  wpList P ops Q (o::rest) a wx :=
 wpList_plain hgd fun _ hK=>ze1 T e g X ho ht hinfo hs hx hown hext hc hk fun v' w' h2 h3 _=>hK _ _ (h v' w' h2 h3)
theorem zbj {P:Program} (w:World) (base:Nat) (t ty e:TypeId) (i:TypeInfo) (size:Nat) (ht:P.underlying t=some (.slice e)) (hi:P.info? e=some i)
  (v:Value) (n:Nat) (xs:List Value) (hown:w.ownsRow base e size v n xs) (c:Nat):(Builtin.append_ #[t,t] ty #[v,.slice none 0 c]).run P w = .ok v w:=by
 rcases hown.2 with ⟨rfl,rfl⟩ | ⟨g,cap,cur,rfl,_,_,aa,_⟩
 ·simp [Builtin.append_,run_underlying ht,sizeOf,typeInfo,hi,Builtin.lenOf,Builtin.firstCells]
 ·simp [Builtin.append_,run_underlying ht,sizeOf,typeInfo,hi,Builtin.lenOf,Builtin.firstCells,aa,storeCells]
theorem OwnI.empty (w:World) (e:TypeId):OwnI (w.alloc (.cells #[] e)) w.heap.size e (.slice (some ⟨w.heap.size,0,none⟩) 0 0) 0 [] :=
 ⟨rfl,.inr ⟨w.heap.size,0,#[],rfl,Zb _,heap_alloc_new w _,Zb _,by simp,rfl,rfl⟩⟩
theorem zaB {w:World} {B k:Nat} {e:TypeId} {v:Value} {xs:List Int} (h:OwnI w B e v k xs):∃A c,v = .slice A k c/\Ints w A k xs:=by
 rcases h.2 with ⟨h1,h2⟩ | ⟨g,cap,cur,h1,_⟩
 ·subst h2
  subst h1
  exact ⟨none,0,rfl,Ints.of_own h⟩
 ·subst h1
  exact ⟨_,_,rfl,Ints.of_own h⟩
theorem zdX {α:Type} (f:Nat->α) (k:Nat):(List.range (k+1)).map f=(List.range k).map f++[f k]:=by
 rw [List.range_succ,List.map_append];rfl
end Go.Proofs.YtbjgpbojjhldaaaGreatDoor
/- Slices whose elements are some cells each,for the walks of this claim. -/
namespace Go.Proofs.YtbjgpbojjhldaaaGreatDoor
set_option maxRecDepth 100000
open Go.RowKit Go.ChangeShapes Go.WideShapes
structure Shp (α:Type) where
 size:Nat
 cells:α->List Value
 pos:0<size
 len:∀x,(cells x).length=size
 one:∀x u,u∈cells x->u.oneCell'=true
section
variable {α:Type} {S:Shp α}
theorem zaU (xs:List α):(xs.flatMap S.cells).length=xs.length*S.size:=by
 induction xs with
 | nil=>simp
 | cons x xs ih=>rw [List.flatMap_cons,Zc,ih,S.len,Zk,Nat.add_mul,Nat.one_mul,Nat.add_comm]
theorem zb6:∀(xs:List α) (k i:Nat),i<S.size->(xs.flatMap S.cells)[k*S.size+i]?=xs[k]?.bind (fun x=>(S.cells x)[i]?):=by
 intro xs
 induction xs with
 | nil=>intro k i _;simp
 | cons x xs ih =>
  intro k i hi
  rw [List.flatMap_cons]
  cases k with
  | zero=>rw [Nat.zero_mul,Nat.zero_add,ZT (by rw [S.len];exact hi)];rfl
  | succ k =>
   have e:(k+1)*S.size+i=S.size+(k*S.size+i):=by rw [Nat.add_mul,Nat.one_mul];omega
   rw [ZN (by rw [S.len,e];omega),S.len,e,Nat.add_sub_cancel_left,ih k i hi];rfl
def Vec (S:Shp α) (w:World) (A:Option Addr) (n:Nat) (xs:List α):Prop :=
 xs.length=n/\(0<n->∃b off,A=some ⟨b,off,none⟩/\b<w.heap.size/\∀k x,xs[k]?=some x->∀i u,(S.cells x)[i]?=some u->w.cell? ⟨b,off+(k*S.size+i),none⟩=some u)
variable {w w':World} {A:Option Addr} {n:Nat} {xs:List α}
theorem Vec.len (h:Vec S w A n xs):xs.length=n:=h.1
theorem Vec.none_ (S:Shp α) (w:World) (A:Option Addr):Vec S w A 0 []:=⟨rfl,fun h=>absurd h (by omega)⟩
theorem Vec.keep (h:Vec S w A n xs) (hz:w.heap.size<=w'.heap.size) (hk:∀b off,A=some ⟨b,off,none⟩->∀o,w'.cell? ⟨b,o,none⟩=w.cell? ⟨b,o,none⟩):Vec S w' A n xs :=
 ⟨h.1,fun hn=>by
  obtain ⟨b,off,e,hb,hc⟩:=h.2 hn
  exact ⟨b,off,e,by omega,fun k x hx i u hu=>(hk b off e _).trans (hc k x hx i u hu)⟩⟩
theorem Vec.ext (h:Vec S w A n xs) (hb:Ext w w'):Vec S w' A n xs :=
 ⟨h.1,fun hn=>by
  obtain ⟨b,off,e,hlt,hc⟩:=h.2 hn
  exact ⟨b,off,e,Zi hlt (Zt hb),fun k x hx i u hu=>(Zl (p:=⟨b,off+(k*S.size+i),none⟩) hb hlt).trans (hc k x hx i u hu)⟩⟩
theorem Vec.but {g:Nat} (h:Vec S w A n xs) (hb:But (some g) w w') (hne:∀off,0<n->A≠some ⟨g,off,none⟩):Vec S w' A n xs :=
 ⟨h.1,fun hn=>by
  obtain ⟨b,off,e,hlt,hc⟩:=h.2 hn
  have hg:some b≠some g:=by rintro e2;cases e2;exact hne off hn e
  exact ⟨b,off,e,Zi hlt hb.size,fun k x hx i u hu=>(hb.cell (p:=⟨b,off+(k*S.size+i),none⟩) hlt hg).trans (hc k x hx i u hu)⟩⟩
theorem zc9 (b off j:Nat):((⟨b,off,none⟩:Addr).add j)=⟨b,off+j,none⟩:=by
 unfold Addr.add;split <;> simp_all
def OwnV (S:Shp α) (w:World) (B:Nat) (e:TypeId) (v:Value) (k:Nat) (L:List α):Prop:=w.ownsRow B e S.size v k (L.flatMap S.cells)
theorem OwnV.nil (S:Shp α) (w:World) (B:Nat) (e:TypeId):OwnV S w B e (.slice none 0 0) 0 []:=World.ownsRow_nil _ _ _ _
theorem OwnV.alloc {B:Nat} {e:TypeId} {v:Value} {k:Nat} {L:List α} (h:OwnV S w B e v k L) (o:Obj):OwnV S (w.alloc o) B e v k L:=World.ownsRow.alloc h o
theorem OwnV.drew {B:Nat} {e:TypeId} {v:Value} {k:Nat} {L:List α} (h:OwnV S w B e v k L):OwnV S w.drew B e v k L:=World.ownsRow.drew h
theorem OwnV.drewN {B:Nat} {e:TypeId} {v:Value} {k:Nat} {L:List α} (h:OwnV S w B e v k L) (n:Nat):OwnV S (w.drewN n) B e v k L:=h
theorem OwnV.ext {B:Nat} {e:TypeId} {v:Value} {k:Nat} {L:List α} (h:OwnV S w B e v k L) (hb:Ext w w'):OwnV S w' B e v k L :=
 World.ownsRow.kept h (But.of_ext hb none) (by cases v.ownBlock <;> simp)
theorem OwnV.len {B:Nat} {e:TypeId} {v:Value} {k:Nat} {L:List α} (h:OwnV S w B e v k L):L.length=k:=by
 have:=h.1
 rw [zaU] at this
 exact Nat.eq_of_mul_eq_mul_right S.pos this
theorem Vec.of_own {B:Nat} {e:TypeId} {k c:Nat} {A:Option Addr} {L:List α} (h:OwnV S w B e (.slice A k c) k L):Vec S w A k L:=by
 refine ⟨h.len,fun hn=>?_⟩
 obtain ⟨g,cap,hv,_,hlt⟩:=World.ownsRow.form h hn
 simp only [Value.slice.injEq,true_and] at hv
 obtain ⟨hA,hc⟩:=hv
 subst hA
 refine ⟨g,0,rfl,hlt,fun j x hx i u hu=>?_⟩
 have hi:i<S.size:=by rw [<-S.len x];exact (ZB.1 hu).1
 have hj:j<k:=by rw [<-h.len];exact (ZB.1 hx).1
 have hb:j*S.size+i<k*S.size:=by
  have:=Nat.mul_le_mul_right S.size (show j+1<=k by omega)
  rw [Nat.add_mul,Nat.one_mul] at this
  omega
 rw [Nat.zero_add,World.ownsRow.cellAt h _ hb,zb6 _ _ _ hi,hx]
 exact hu
theorem zao {B k:Nat} {e:TypeId} {v:Value} {L:List α} (h:OwnV S w B e v k L):∃A c,v = .slice A k c/\Vec S w A k L:=by
 rcases h.2 with ⟨h1,h2⟩ | ⟨g,cap,cur,h1,_⟩
 ·subst h2
  subst h1
  exact ⟨none,0,rfl,Vec.of_own h⟩
 ·subst h1
  exact ⟨_,_,rfl,Vec.of_own h⟩
section
variable {P:Program} {ops:Array Oper} {rest:List Oper} {o:Oper} {a:Act} {K:Act->World->Prop} {Q:Exit->Act->World->Prop} {E:Prop} {wx:World}
theorem ze5 (T e:TypeId) (z:Value) (bytes:Nat) {s x:Operand} {v:Value} {k:Nat} (g:Nat) {L:List α} (X:α)
  (ho:o.op = .call { callee := .builtin .append,args:=#[s,x],argTypes:=#[T,T] })
  (ht:P.underlying T=some (.slice e)) (hinfo:(P.info? e).map (fun i=>(i.zero,i.size,i.bytes))=some (some z,S.size,bytes)) (hzs:z.cells.size=S.size) (hby:bytes<=1000)
  (hs:a.eval s=v) (hx:a.eval x = .slice (some ⟨g,0,none⟩) 1 1) (hown:OwnV S wx w.heap.size e v k L) (hext:Ext w wx)
  (hc:∀j u,(S.cells X)[j]?=some u->wx.cell? ⟨g,j,none⟩=some u) (hk:k<=1000000)
  (h:∀v' w1,OwnV S w1 w.heap.size e v' (k+1) (L++[X])->Hid (Ext w w1)->wx.grownBy w1 v.ownBlock->K (a.put o.dst v') w1):o.wp P a wx K Q:=by
 refine zbQ T e z S.size bytes g (S.cells X) ho ht hinfo hzs S.pos hby hs hx hown hext (S.len X) hc (S.one X) hk ?_
 intro v' w1 h1 h2 h3
 exact h v' w1 (by unfold OwnV;rw [ZO];simpa using h1) h2 h3
theorem zdL (T e:TypeId) (z:Value) (bytes:Nat) {s x:Operand} {v:Value} {k:Nat} (g:Nat) {L:List α} (X:α)
  (hgd:o.guard=none) (ho:o.op = .call { callee := .builtin .append,args:=#[s,x],argTypes:=#[T,T] })
  (ht:P.underlying T=some (.slice e)) (hinfo:(P.info? e).map (fun i=>(i.zero,i.size,i.bytes))=some (some z,S.size,bytes)) (hzs:z.cells.size=S.size) (hby:bytes<=1000)
  (hs:a.eval s=v) (hx:a.eval x = .slice (some ⟨g,0,none⟩) 1 1) (hown:OwnV S wx w.heap.size e v k L) (hext:Ext w wx)
  (hc:∀j u,(S.cells X)[j]?=some u->wx.cell? ⟨g,j,none⟩=some u) (hk:k<=1000000)
  (h:∀v' w1,OwnV S w1 w.heap.size e v' (k+1) (L++[X])->Hid (Ext w w1)->wx.grownBy w1 v.ownBlock->K (a.put o.dst v') w1) :
  if Region.wanted o (yielded ops a.tmps)=true then Oper.wp P o a wx K Q else E:=by
 have hw:Region.wanted o (yielded ops a.tmps)=true:=by simp [Region.wanted,hgd]
 rw [if_pos hw]
 exact ze5 T e z bytes g X ho ht hinfo hzs hby hs hx hown hext hc hk h
theorem Vec.cells_at {ad:Addr} (hxs:Vec S wx (some ad) n xs):∀j u,(xs.flatMap S.cells)[j]?=some u->wx.cell? (ad.add j)=some u:=by
 intro j u hu
 have hj:=(ZB.1 hu).1
 rw [zaU,hxs.1] at hj
 have hn:0<n:=Nat.pos_of_ne_zero (by rintro rfl;rw [Nat.zero_mul] at hj;exact absurd hj (Nat.not_lt_zero _))
 obtain ⟨b,off,hA,_,hc⟩:=hxs.2 hn
 cases hA
 have e:j=j / S.size*S.size+j % S.size:=by rw [Nat.mul_comm];exact (Nat.div_add_mod j S.size).symm
 have hi:=Nat.mod_lt j S.pos
 rw [e,zb6 _ _ _ hi] at hu
 obtain ⟨x,hx,hu⟩:=Option.bind_eq_some_iff.1 hu
 rw [zc9,e]
 exact hc _ x hx _ u hu
end
theorem Vec.lit (w:World) (L:List α) (t:TypeId):Vec S (w.alloc (.cells (L.flatMap S.cells).toArray t)) (some ⟨w.heap.size,0,none⟩) L.length L:=by
 refine ⟨rfl,fun hn=>⟨w.heap.size,0,rfl,by simp,fun k x hx i u hu=>?_⟩⟩
 have hi:i<S.size:=by rw [<-S.len x];exact (ZB.1 hu).1
 have h:(w.alloc (.cells (L.flatMap S.cells).toArray t)).heap[w.heap.size]?=some (.cells (L.flatMap S.cells).toArray t):=heap_alloc_new w _
 rw [Nat.zero_add,cell_of_row _ w.heap.size _ _ t (0,0) h,List.getElem?_toArray,zb6 _ _ _ hi,hx]
 exact hu
theorem Vec.lit2 {L:List α} {t:TypeId} {g n:Nat} {cs:Array Value} (hg:g=w.heap.size) (hc:cs=(L.flatMap S.cells).toArray) (hn:n=L.length):Vec S (w.alloc (.cells cs t)) (some ⟨g,0,none⟩) n L:=by
 subst hg;subst hc;subst hn;exact Vec.lit w L t
end
section
variable {α:Type} {S:Shp α} {H:Type} {enc:TypeId×Value->H} {P:Program} {w:World} {base:Nat} {spare:Nat->Bool} {held:Bool}
end
end Go.Proofs.YtbjgpbojjhldaaaGreatDoor
/- Lists of stitches in memory. -/
namespace Go.Proofs.YtbjgpbojjhldaaaGreatDoor
set_option maxRecDepth 100000
open Go.RowKit Go.ChangeShapes Go.WideShapes Go.Joins
def stc (s:St):List Value:=[.int .u8 s.k,.bool s.p,.int .i64 s.a,.int .i64 s.b]
def shSt:Shp St where
 size:=4
 cells:=stc
 pos:=by omega
 len _:=rfl
 one p u h:=by
  simp [stc] at h
  rcases h with h | h | h | h <;> subst h <;> rfl
theorem zdt:(Tryz.prog.info? 92).map (fun i=>(i.zero,i.size,i.bytes))=some (some (.agg #[.int .u8 0,.bool false,.int .i64 0,.int .i64 0]),4,24):=by kernel_rfl
theorem Sts.all {w:World} {A:Option Addr} {n:Nat} {xs:List St} (h:Vec shSt w A n xs) (hn:0<n) :
  ∃b off,A=some ⟨b,off,none⟩/\b<w.heap.size/\∀k,k<n->w.cell? ⟨b,off+k*4,none⟩=some (.int .u8 (xs.getD k st0).k)/\w.cell? ⟨b,off+k*4+1,none⟩=some (.bool (xs.getD k st0).p) /\
   w.cell? ⟨b,off+k*4+2,none⟩=some (.int .i64 (xs.getD k st0).a)/\w.cell? ⟨b,off+k*4+3,none⟩=some (.int .i64 (xs.getD k st0).b):=by
 obtain ⟨b,off,e,hb,hc⟩:=h.2 hn
 have hl:=h.1
 refine ⟨b,off,e,hb,fun k hk=>?_⟩
 have hx:=zsa (l:=xs) (k:=k) (by omega)
 exact ⟨hc k _ hx 0 _ rfl,hc k _ hx 1 _ rfl,hc k _ hx 2 _ rfl,hc k _ hx 3 _ rfl⟩
theorem zaA (x:Int) (y:Bool) (z t x':Int) (y':Bool) (z' t':Int) (w:World) :
  (Op.equalIn 10000 92 (.agg #[.int .u8 x,.bool y,.int .i64 z,.int .i64 t]) (.agg #[.int .u8 x',.bool y',.int .i64 z',.int .i64 t'])).run Tryz.prog w = .ok (x==x' && (y==y' && (z==z' && t==t'))) w:=by
 rw [run_equalIn_agg (P:=Tryz.prog) w 9999 92 _ _ (by kernel_rfl) (by kernel_rfl)]
 simp [Op.eqFields,Program.fieldsOf,Tryz.underlying92,go_sem,part,Tryz.underlying5,Tryz.underlying4,Tryz.underlying3]
 by_cases h1:x=x' <;> by_cases h2:y=y' <;> by_cases h3:z=z' <;> by_cases h4:t=t' <;> simp [h1,h2,h3,h4]
theorem zsw {p:Prop} (h:p:=by
 have:(x==x' && (y==y' && (z==z' && t==t')))=false:=by
  cases e:(x==x' && (y==y' && (z==z' && t==t')))
  ·rfl
  ·simp at e
   obtain ⟨rfl,rfl,rfl,rfl⟩:=e
   exact absurd rfl h
 rw [this]
 rfl):p:=h
theorem zfF {x:Int} {y:Bool} {z t x':Int} {y':Bool} {z' t':Int} (h:¬(⟨x,y,z,t⟩:St)=⟨x',y',z',t'⟩) (w:World) :
  (binOp .neq 92 (.agg #[.int .u8 x,.bool y,.int .i64 z,.int .i64 t]) (.agg #[.int .u8 x',.bool y',.int .i64 z',.int .i64 t'])).run Tryz.prog w = .ok (.bool true) w:=by
 rw [run_neq_struct,zaA]
 exact zsw
theorem zfE {x:Int} {y:Bool} {z t x':Int} {y':Bool} {z' t':Int} (h:¬(⟨x,y,z,t⟩:St)=⟨x',y',z',t'⟩) (w:World) :
  (binOp .eql 92 (.agg #[.int .u8 x,.bool y,.int .i64 z,.int .i64 t]) (.agg #[.int .u8 x',.bool y',.int .i64 z',.int .i64 t'])).run Tryz.prog w = .ok (.bool false) w:=by
 rw [run_eql_struct,zaA]
 exact zsw
section
variable {H:Type} {enc:TypeId×Value->H} {w:World} {base:Nat} {spare:Nat->Bool} {held:Bool}
end
end Go.Proofs.YtbjgpbojjhldaaaGreatDoor
/- The library's functions that the stitches' texts call,in the words of this claim. -/
namespace Go.Proofs.YtbjgpbojjhldaaaGreatDoor
set_option maxRecDepth 100000
open Go.RowKit
theorem zae (l:List UInt8):(⟨l.toArray⟩:ByteArray).data.toList=l:=by simp
theorem zai (l:List UInt8):(⟨l.toArray⟩:ByteArray).size=l.length:=by simp [ByteArray.size]
theorem zeT (a b:List UInt8):(⟨a.toArray⟩++⟨b.toArray⟩:ByteArray)=⟨(a++b).toArray⟩:=by
 apply ByteArray.ext
 simp
theorem zc5 (l:List UInt8) (k:Nat):(⟨l.toArray⟩:ByteArray).extract 0 k=⟨(l.take k).toArray⟩:=by
 apply ByteArray.ext
 apply Array.toList_inj.1
 rw [Lib.extract_from_zero]
theorem zaY (l:List UInt8) (k n:Nat) (h:l.length<=n):(⟨l.toArray⟩:ByteArray).extract k n=⟨(l.drop k).toArray⟩:=by
 apply ByteArray.ext
 apply Array.toList_inj.1
 rw [Lib.extract_data]
 exact Zs (by simp;omega)
theorem zcq (l:List UInt8) (k:Nat) (h:k<(⟨l.toArray⟩:ByteArray).size):(⟨l.toArray⟩:ByteArray)[k]=l.getD k 0:=by
 have h2:k<l.length:=by simpa [ByteArray.size] using h
 rw [Zd,Zf h2]
 rfl
theorem zaf (n:Int) (h0:0<=n) (h1:n<=1000000000000) (w:World) (hg:Glob w) :
  Calls Tryz.prog 36 #[.int .i64 n] w fun e w'=>e = .returned (.string ⟨(decD n.toNat).toArray⟩)/\Ext w w':=by
 refine (Tryz.strconv_Itoa n (by omega) (by omega) w hg.tab).mono ?_
 rintro e w' ⟨rfl,k,os,rfl⟩
 exact ⟨by rw [zmH h0 h1],Lib.below_grow _ _ (Zb _) _ _⟩
theorem zdc (l:List UInt8) (hl:l.length<=4) (h:l.all isDg=true) (h0:l≠[]) (w:World) :
  Calls Tryz.prog 113 #[.string ⟨l.toArray⟩] w fun e w'=>e = .returned (.tuple #[.int .i64 (valD l:Int),.nilIface])/\Ext w w':=by
 refine (Tryz.strconv_Atoi ⟨l.toArray⟩ (valD l:Int) (by rw [zai];omega) (by rw [zae];exact zdb h h0) w).mono ?_
 rintro e w' ⟨rfl,t,rfl⟩
 exact ⟨rfl,Lib.bytesWorld_below _ _ _⟩
theorem zeu (w:World) (hg:Glob w) :
  Calls Tryz.prog 113 #[.string ⟨#[]⟩] w fun e w'=>(∃te p,e = .returned (.tuple #[.int .i64 0,.iface te (.pointer (some p))]))/\Ext w w':=by
 obtain ⟨tp,p,hv⟩:=hg.syn
 refine (Tryz.strconv_Atoi_err_var ⟨#[]⟩ (by simp [ByteArray.size]) rfl tp p w hv).mono ?_
 rintro e w' ⟨N,rfl,_,_,hb⟩
 exact ⟨⟨_,_,rfl⟩,hb⟩
theorem zbe (w:World) (hg:Glob w) :
  Calls Tryz.prog 113 #[.string ByteArray.empty] w fun e w'=>(∃te p,e = .returned (.tuple #[.int .i64 0,.iface te (.pointer (some p))]))/\Ext w w':=zeu w hg
def shStr:Shp (List UInt8) where
 size:=1
 cells x:=[.string ⟨x.toArray⟩]
 pos:=by omega
 len _:=rfl
 one x u h:=by
  simp at h
  subst h
  rfl
theorem za9:(Tryz.prog.info? 9).map (fun i=>(i.zero,i.size,i.bytes))=some (some (.string ⟨#[]⟩),1,16):=by kernel_rfl
theorem zsy {p:Prop} (h:p:=by
 rw [cell_of_row _ w.heap.size _ _ 9 (0,0) h1]
 rw [<-hs,List.getElem?_map] at hx
 obtain ⟨y,hy,rfl⟩:=ZS.1 hx
 simp [hy,shStr]):p:=h
theorem zcp (l:List UInt8) (c:UInt8) (hl:l.length<=100000) (w:World) (hg:Glob w) :
  Calls Tryz.prog 66 #[.string ⟨l.toArray⟩,.string ⟨#[c]⟩] w fun e w'=>∃g n,e = .returned (.slice (some ⟨g,0,none⟩) n n)/\Ext w w'/\Vec shStr w' (some ⟨g,0,none⟩) n (spl c l):=by
 obtain ⟨m,hm⟩:=hg.max
 refine (Tryz.strings_Split ⟨l.toArray⟩ ⟨#[c]⟩ m w (by rw [zai];omega) hm (by simp [ByteArray.size])).mono ?_
 rintro e w' ⟨rfl,rfl⟩
 have hs:=zlj c ⟨l.toArray⟩
 rw [zae] at hs
 have aa:(spl c l).length=Lib.countB ⟨l.toArray⟩ ⟨#[c]⟩+1:=by
  rw [zfQ c _ l (Zb _),Lib.countB,zae]
 refine ⟨w.heap.size,_,rfl,(Ze _).alloc _,aa,fun _=>⟨w.heap.size,0,rfl,by simp,fun k x hx i u hu=>?_⟩⟩
 have hi:i=0:=by
  rcases i with _ | i
  ·rfl
  ·simp [shStr] at hu
 subst hi
 have ab:u = .string ⟨x.toArray⟩:=by simp [shStr] at hu;exact hu.symm
 subst ab
 have h1:(w.alloc (.cells ((Lib.splitB ⟨#[c]⟩ 0 (Lib.countB ⟨l.toArray⟩ ⟨#[c]⟩) ⟨l.toArray⟩).map Value.string).toArray 9)).heap[w.heap.size]?=some (.cells ((Lib.splitB ⟨#[c]⟩ 0 (Lib.countB ⟨l.toArray⟩ ⟨#[c]⟩) ⟨l.toArray⟩).map Value.string).toArray 9):=heap_alloc_new w _
 exact zsy
theorem zb7:∀(ws:List (List UInt8)),ws.flatMap shStr.cells=ws.map (fun l=>Value.string ⟨l.toArray⟩):=by
 intro ws
 induction ws with
 | nil=>rfl
 | cons x ws ih=>rw [List.flatMap_cons,ih];rfl
theorem zsv {p:Prop} (h:p:=by
 rw [cell_of_row _ g _ _ e (0,0) hg]
 have h8:(ws.flatMap shStr.cells)[j]?=some (.string ⟨l.toArray⟩):=by
  rw [zb7,List.getElem?_map,hl1]
  rfl
 rw [<-hcur,List.getElem?_take] at h8
 split at h8
 ·rw [Nat.zero_add]
  simpa using h8
 ·cases h8):p:=h
theorem zhx (B n c:Nat) (A:Option Addr) (ws:List (List UInt8)) (d:UInt8) (e:TypeId) (w:World) (hv:OwnV shStr w B e (.slice A n c) n ws) (hl:(joinB d ws).length<=100000000) (hws:n<=100000000) :
  Calls Tryz.prog 85 #[.slice A n c,.string ⟨#[d]⟩] w fun e w'=>e = .returned (.string ⟨(joinB d ws).toArray⟩)/\Ext w w':=by
 have hn:ws.length=n:=OwnV.len hv
 rcases hv.2 with ⟨h0,h1⟩ | ⟨g,cap,cur,h0,hB,hg,hnc,hcm,hsz,hcur⟩
 ·cases h0
  obtain rfl:ws=[]:=Zz hn
  refine (Tryz.strings_Join_none none 0 ⟨#[d]⟩ w).mono ?_
  rintro e w' ⟨rfl,rfl⟩
  exact ⟨rfl,Ze _⟩
 ·cases h0
  have hx:(ws.map (fun l=>(⟨l.toArray⟩:ByteArray))).map (·.data.toList)=ws:=by
   rw [List.map_map]
   conv=>rhs;rw [<-List.map_id ws]
   apply List.map_congr_left
   intro l _
   simp
  have hj:Lib.join ((ws.map (fun l=>(⟨l.toArray⟩:ByteArray))).map (·.data.toList)) (⟨#[d]⟩:ByteArray).data.toList=joinB d ws:=by
   rw [hx]
   exact zmI d ws
  have h9:=Tryz.strings_Join g 0 c (ws.map (fun l=>(⟨l.toArray⟩:ByteArray))) ⟨#[d]⟩ w (fun j x hjx=>?_) (Zh.1 hg).1 (by rw [List.length_map];omega) (by rw [List.length_map];omega) (by rw [hj];omega)
  ·rw [List.length_map,hn] at h9
   refine h9.mono ?_
   rintro e w' ⟨rfl,hb⟩
   exact ⟨by rw [hj],hb⟩
  ·rw [List.getElem?_map] at hjx
   obtain ⟨l,hl1,rfl⟩:=ZS.1 hjx
   exact zsv
end Go.Proofs.YtbjgpbojjhldaaaGreatDoor
/- The library's functions on strings that words calls. -/
namespace Go.Proofs.YtbjgpbojjhldaaaGreatDoor
set_option maxRecDepth 100000
open Go.RowKit
theorem zfU (p l:List UInt8):Lib.trimPrefix l p=(cutP p l).getD l:=by
 rw [Lib.trimPrefix,zhs,cutP]
 by_cases h:l.take p.length=p
 ·rw [if_pos h];simp
 ·rw [if_neg h];simp
theorem zlu (p l:List UInt8):Lib.trimSuffix l p=(cutS p l).getD l:=by
 rw [Lib.trimSuffix,zht,cutS]
 by_cases h:l.drop (l.length-p.length)=p/\p.length<=l.length
 ·rw [if_pos h];simp
 ·rw [if_neg h];simp
theorem zcW (p l:List UInt8) (w:World) :
  Calls Tryz.prog 217 #[.string ⟨l.toArray⟩,.string ⟨p.toArray⟩] w fun e w'=>e = .returned (.tuple #[.string ⟨((cutP p l).getD l).toArray⟩,.bool (cutP p l).isSome])/\w'=w:=by
 refine (Tryz.strings_CutPrefix ⟨l.toArray⟩ ⟨p.toArray⟩ w).mono ?_
 rintro e w' ⟨rfl,rfl⟩
 refine ⟨?_,rfl⟩
 rw [show (⟨l.toArray⟩:ByteArray).data.toList=l from zae l,show (⟨p.toArray⟩:ByteArray).data.toList=p from zae p,zfU,zhs]
theorem zl7 (p l:List UInt8) (hl:l.length<=1000000) (w:World) :
  Calls Tryz.prog 180 #[.string ⟨l.toArray⟩,.string ⟨p.toArray⟩] w fun e w'=>e = .returned (.tuple #[.string ⟨((cutS p l).getD l).toArray⟩,.bool (cutS p l).isSome])/\w'=w:=by
 refine (Tryz.strings_CutSuffix ⟨l.toArray⟩ ⟨p.toArray⟩ w (by rw [zai];omega)).mono ?_
 rintro e w' ⟨rfl,rfl⟩
 refine ⟨?_,rfl⟩
 rw [show (⟨l.toArray⟩:ByteArray).data.toList=l from zae l,show (⟨p.toArray⟩:ByteArray).data.toList=p from zae p,zlu,zht]
theorem zlv (p l:List UInt8) (w:World) :
  Calls Tryz.prog 182 #[.string ⟨l.toArray⟩,.string ⟨p.toArray⟩] w fun e w'=>e = .returned (.string ⟨((cutP p l).getD l).toArray⟩)/\w'=w:=by
 refine (Tryz.strings_TrimPrefix ⟨l.toArray⟩ ⟨p.toArray⟩ w).mono ?_
 rintro e w' ⟨rfl,rfl⟩
 refine ⟨?_,rfl⟩
 rw [show (⟨l.toArray⟩:ByteArray).data.toList=l from zae l,show (⟨p.toArray⟩:ByteArray).data.toList=p from zae p,zfU]
theorem zeP (l x:List UInt8) (hl:l.length<=1000) (hx:x.length<=1000) (w:World) (hg:Glob w) :
  Calls Tryz.prog 129 #[.string ⟨l.toArray⟩,.string ⟨#[35]⟩,.string ⟨x.toArray⟩,.int .i64 1] w fun e w'=>e = .returned (.string ⟨(rep1 x l).toArray⟩)/\Ext w w':=by
 obtain ⟨m,hm⟩:=hg.max
 have hc:Lib.countB ⟨l.toArray⟩ ⟨#[35]⟩<=1000:=by
  have h9:=zjm 35 l
  have h6:Lib.countB ⟨l.toArray⟩ ⟨#[35]⟩=Lib.count l [35]:=by rw [Lib.countB,zae]
  omega
 have h5:Lib.countB ⟨l.toArray⟩ ⟨#[35]⟩*(⟨x.toArray⟩:ByteArray).size<=1000*1000:=Nat.mul_le_mul hc (by rw [zai];exact hx)
 refine (Tryz.strings_Replace ⟨l.toArray⟩ ⟨#[35]⟩ ⟨x.toArray⟩ 1 m w (by rw [zai];omega) hm (by simp [ByteArray.size]) (by rw [zai];omega)).mono ?_
 rintro e w' ⟨rfl,hb⟩
 refine ⟨?_,hb⟩
 rw [show (⟨l.toArray⟩:ByteArray).data.toList=l from zae l,show (⟨#[35]⟩:ByteArray).data.toList=[35] from rfl,show (⟨x.toArray⟩:ByteArray).data.toList=x from zae x,zns]
theorem ziY (l:List UInt8) (hl:l.length<=100000) (w:World) (hg:Glob w) :
  Calls Tryz.prog 66 #[.string ⟨l.toArray⟩,.string ⟨#[44,32]⟩] w fun e w'=>∃g n,e = .returned (.slice (some ⟨g,0,none⟩) n n)/\Ext w w'/\Vec shStr w' (some ⟨g,0,none⟩) n (splC l):=by
 obtain ⟨m,hm⟩:=hg.max
 refine (Tryz.strings_Split ⟨l.toArray⟩ ⟨#[44,32]⟩ m w (by rw [zai];omega) hm (by simp [ByteArray.size])).mono ?_
 rintro e w' ⟨rfl,rfl⟩
 have hs:=ziZ ⟨l.toArray⟩
 rw [zae] at hs
 have aa:(splC l).length=Lib.countB ⟨l.toArray⟩ ⟨#[44,32]⟩+1:=by
  rw [(zrD _ l (Zb _)).2,Lib.countB,zae]
  rfl
 refine ⟨w.heap.size,_,rfl,(Ze _).alloc _,aa,fun _=>⟨w.heap.size,0,rfl,by simp,fun k x hx i u hu=>?_⟩⟩
 have hi:i=0:=by
  rcases i with _ | i
  ·rfl
  ·simp [shStr] at hu
 subst hi
 have ab:u = .string ⟨x.toArray⟩:=by simp [shStr] at hu;exact hu.symm
 subst ab
 have h1:(w.alloc (.cells ((Lib.splitB ⟨#[44,32]⟩ 0 (Lib.countB ⟨l.toArray⟩ ⟨#[44,32]⟩) ⟨l.toArray⟩).map Value.string).toArray 9)).heap[w.heap.size]?=some (.cells ((Lib.splitB ⟨#[44,32]⟩ 0 (Lib.countB ⟨l.toArray⟩ ⟨#[44,32]⟩) ⟨l.toArray⟩).map Value.string).toArray 9):=heap_alloc_new w _
 exact zsy
theorem zj9 (B n c:Nat) (A:Option Addr) (ws:List (List UInt8)) (e:TypeId) (w:World) (hv:OwnV shStr w B e (.slice A n c) n ws) (hl:(joinC ws).length<=100000000) (hws:n<=100000000) :
  Calls Tryz.prog 85 #[.slice A n c,.string ⟨#[44,32]⟩] w fun e w'=>e = .returned (.string ⟨(joinC ws).toArray⟩)/\Ext w w':=by
 have hn:ws.length=n:=OwnV.len hv
 rcases hv.2 with ⟨h0,h1⟩ | ⟨g,cap,cur,h0,hB,hg,hnc,hcm,hsz,hcur⟩
 ·cases h0
  obtain rfl:ws=[]:=Zz hn
  refine (Tryz.strings_Join_none none 0 ⟨#[44,32]⟩ w).mono ?_
  rintro e w' ⟨rfl,rfl⟩
  exact ⟨rfl,Ze _⟩
 ·cases h0
  have hx:(ws.map (fun l=>(⟨l.toArray⟩:ByteArray))).map (·.data.toList)=ws:=by
   rw [List.map_map]
   conv=>rhs;rw [<-List.map_id ws]
   apply List.map_congr_left
   intro l _
   simp
  have hj:Lib.join ((ws.map (fun l=>(⟨l.toArray⟩:ByteArray))).map (·.data.toList)) (⟨#[44,32]⟩:ByteArray).data.toList=joinC ws:=by
   rw [hx]
   exact zkb ws
  have h9:=Tryz.strings_Join g 0 c (ws.map (fun l=>(⟨l.toArray⟩:ByteArray))) ⟨#[44,32]⟩ w (fun j x hjx=>?_) (Zh.1 hg).1 (by rw [List.length_map];omega) (by rw [List.length_map];omega) (by rw [hj];omega)
  ·rw [List.length_map,hn] at h9
   refine h9.mono ?_
   rintro e w' ⟨rfl,hb⟩
   exact ⟨by rw [hj],hb⟩
  ·rw [List.getElem?_map] at hjx
   obtain ⟨l,hl1,rfl⟩:=ZS.1 hjx
   exact zsv
end Go.Proofs.YtbjgpbojjhldaaaGreatDoor
