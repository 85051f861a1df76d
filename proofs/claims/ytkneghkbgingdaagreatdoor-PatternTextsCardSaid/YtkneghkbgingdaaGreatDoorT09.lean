/- Rows of charts in memory. -/
import Derived.Test.YtkneghkbgingdaaGreatDoorT08
set_option maxHeartbeats 16000000
namespace Go.Proofs.YtkneghkbgingdaaGreatDoor
set_option maxRecDepth 100000
open Go.RowKit Go.ChangeShapes Go.WideShapes Go.Joins
structure Raw where
 b:Bool
 A:Option Addr
 n:Nat
 c:Nat
def raw0:Raw:=⟨false,none,0,0⟩
def shRaw:Shp Raw where
 size:=2
 cells x:=[.bool x.b,.slice x.A x.n x.c]
 pos:=by omega
 len _:=rfl
 one x u h:=by
  simp at h
  rcases h with h | h <;> subst h <;> rfl
theorem zbB:(Tryz.prog.info? 75).map (fun i=>(i.zero,i.size,i.bytes))=some (some (.agg #[.bool false,.slice none 0 0]),2,32):=by kernel_rfl
def RoAt (w:World) (K:Nat->Prop) (x:Raw) (r:Ro):Prop :=
 x.b=r.back/\Vec shSt w x.A x.n r.cells/\x.n<=maxLen/\Bytes r.cells/\(0<x.n->∀b off,x.A=some ⟨b,off,none⟩->K b)
def RosAt (w:World) (K:Nat->Prop) (xs:List Raw) (l:List Ro):Prop:=xs.length=l.length/\∀k,k<l.length->RoAt w K (xs.getD k raw0) (l.getD k ro0)
def Rws (w:World) (K:Nat->Prop) (A:Option Addr) (n:Nat) (l:List Ro):Prop :=
 n<=maxLen/\∃xs:List Raw,Vec shRaw w A n xs/\(0<n->∀b off,A=some ⟨b,off,none⟩->K b)/\RosAt w K xs l
theorem Rws.len {w:World} {K:Nat->Prop} {A:Option Addr} {n:Nat} {l:List Ro} (h:Rws w K A n l):l.length=n:=by
 obtain ⟨_,xs,h1,_,h2⟩:=h
 rw [<-h2.1]
 exact h1.1
theorem Vec.keepK {α:Type} {S:Shp α} {w w':World} {K:Nat->Prop} {A:Option Addr} {n:Nat} {l:List α} (h:Vec S w A n l) (hk:0<n->∀b off,A=some ⟨b,off,none⟩->K b) (hz:w.heap.size<=w'.heap.size)
  (hc:∀b,b<w.heap.size->K b->∀o,w'.cell? ⟨b,o,none⟩=w.cell? ⟨b,o,none⟩):Vec S w' A n l :=
 ⟨h.1,fun hn=>by
  obtain ⟨b,off,e,hlt,hx⟩:=h.2 hn
  exact ⟨b,off,e,Zo hlt hz,fun k x hxk i u hu=>(hc b hlt (hk hn b off e) _).trans (hx k x hxk i u hu)⟩⟩
theorem RoAt.keep {w w':World} {K K':Nat->Prop} {x:Raw} {r:Ro} (h:RoAt w K x r) (hz:w.heap.size<=w'.heap.size) (hc:∀b,b<w.heap.size->K b->K' b/\∀o,w'.cell? ⟨b,o,none⟩=w.cell? ⟨b,o,none⟩):RoAt w' K' x r:=by
 obtain ⟨h1,h2,h3,h4,h5⟩:=h
 refine ⟨h1,h2.keepK h5 hz (fun b hb hk=>(hc b hb hk).2),h3,h4,fun hn b off e=>?_⟩
 obtain ⟨b',off',e',hlt,_⟩:=h2.2 hn
 rw [e] at e'
 cases e'
 exact (hc b hlt (h5 hn b off e)).1
theorem RosAt.keep {w w':World} {K K':Nat->Prop} {xs:List Raw} {l:List Ro} (h:RosAt w K xs l) (hz:w.heap.size<=w'.heap.size) (hc:∀b,b<w.heap.size->K b->K' b/\∀o,w'.cell? ⟨b,o,none⟩=w.cell? ⟨b,o,none⟩):RosAt w' K' xs l :=
 ⟨h.1,fun k hk=>(h.2 k hk).keep hz hc⟩
theorem Rws.keep {w w':World} {K K':Nat->Prop} {A:Option Addr} {n:Nat} {l:List Ro} (h:Rws w K A n l) (hz:w.heap.size<=w'.heap.size) (hc:∀b,b<w.heap.size->K b->K' b/\∀o,w'.cell? ⟨b,o,none⟩=w.cell? ⟨b,o,none⟩):Rws w' K' A n l:=by
 obtain ⟨h0,xs,h1,h2,h3⟩:=h
 refine ⟨h0,xs,h1.keepK h2 hz (fun b hb hk=>(hc b hb hk).2),fun hn b off e=>?_,h3.keep hz hc⟩
 obtain ⟨b',off',e',hlt,_⟩:=h1.2 hn
 rw [e] at e'
 cases e'
 exact (hc b hlt (h2 hn b off e)).1
theorem Rws.ext {w w':World} {K:Nat->Prop} {A:Option Addr} {n:Nat} {l:List Ro} (h:Rws w K A n l) (hb:Ext w w'):Rws w' K A n l :=
 h.keep (Zl hb) fun b hlt hk=>⟨hk,fun o=>Zs (p:=⟨b,o,none⟩) hb hlt⟩
theorem Rws.mono {w:World} {K K':Nat->Prop} {A:Option Addr} {n:Nat} {l:List Ro} (h:Rws w K A n l) (hk:∀b,b<w.heap.size->K b->K' b):Rws w K' A n l :=
 h.keep (Zg _) fun b hlt hb=>⟨hk b hlt hb,fun _=>rfl⟩
theorem Rws.any {w:World} {K:Nat->Prop} {A:Option Addr} {n:Nat} {l:List Ro} (h:Rws w K A n l):Rws w (fun _=>True) A n l:=h.mono fun _ _ _=>trivial
theorem Rws.none_ (w:World) (K:Nat->Prop) (A:Option Addr):Rws w K A 0 []:=⟨by unfold maxLen;omega,[],Vec.none_ _ _ _,fun h=>absurd h (by omega),rfl,fun k hk=>by simp at hk⟩
theorem zjZ {l:List Raw} {k:Nat} (h:k<l.length):l[k]?=some (l.getD k raw0):=by
 rw [Zc,Zd h];rfl
theorem Rws.at_ {w:World} {K:Nat->Prop} {A:Option Addr} {n:Nat} {l:List Ro} (h:Rws w K A n l) {k:Nat} (hk:k<n) :
  ∃(b off:Nat) (A':Option Addr) (n' c':Nat),A=some ⟨b,off,none⟩/\b<w.heap.size/\K b/\w.cell? ⟨b,off+k*2,none⟩=some (.bool (l.getD k ro0).back)/\w.cell? ⟨b,off+k*2+1,none⟩=some (.slice A' n' c') /\
   Vec shSt w A' n' (l.getD k ro0).cells/\n'<=maxLen/\Bytes (l.getD k ro0).cells/\(0<n'->∀b off,A'=some ⟨b,off,none⟩->K b):=by
 have hl:=h.len
 obtain ⟨h0,xs,h1,h2,h3⟩:=h
 obtain ⟨b,off,e,hlt,hc⟩:=h1.2 (by omega)
 have hx:=zjZ (l:=xs) (k:=k) (by rw [h1.1];exact hk)
 obtain ⟨g1,g2,g3,g4,g5⟩:=h3.2 k (by omega)
 refine ⟨b,off,(xs.getD k raw0).A,(xs.getD k raw0).n,(xs.getD k raw0).c,e,hlt,h2 (by omega) b off e,?_,?_,g2,g3,g4,g5⟩
 ·rw [<-g1];exact hc k _ hx 0 _ rfl
 ·exact hc k _ hx 1 _ rfl
theorem Rws.part {w:World} {K:Nat->Prop} {A:Option Addr} {n:Nat} {l:List Ro} (h:Rws w K A n l) {i j:Nat} (hij:i<=j) (hj:j<=n):∀(A':Option Addr),(i<j->∃b off,A=some ⟨b,off,none⟩/\A'=some ⟨b,off+i*2,none⟩) ->
  Rws w K A' (j-i) ((l.drop i).take (j-i)):=by
 intro A' hA
 have hl:=h.len
 obtain ⟨h0,xs,h1,h2,h3⟩:=h
 have hxl:=h1.1
 refine ⟨by unfold maxLen at *;omega,(xs.drop i).take (j-i),⟨by rw [Zx,Zu];omega,fun hn=>?_⟩,fun hn b off e=>?_,by rw [Zx,Zu,Zx,Zu];omega,fun k hk=>?_⟩
 ·obtain ⟨b,off,e1,e2⟩:=hA (by omega)
  obtain ⟨b',off',e3,hlt,hc⟩:=h1.2 (by omega)
  rw [e1] at e3
  cases e3
  refine ⟨b,off+i*2,e2,hlt,fun k x hx m u hu=>?_⟩
  have hk:k<j-i:=by
   have:=(ZK.1 hx).1
   rw [Zx] at this
   omega
  rw [List.getElem?_take,if_pos hk,ZV] at hx
  have:=hc (i+k) x hx m u hu
  have e4:off+i*2+(k*shRaw.size+m)=off+((i+k)*shRaw.size+m):=by
   show off+i*2+(k*2+m)=off+((i+k)*2+m)
   omega
  rw [e4]
  exact this
 ·obtain ⟨b',off',e1,e2⟩:=hA (by omega)
  rw [e] at e2
  cases e2
  exact h2 (by omega) b off' e1
 ·rw [Zx,Zu] at hk
  have g1:((xs.drop i).take (j-i)).getD k raw0=xs.getD (i+k) raw0:=by
   rw [Zc,List.getElem?_take,if_pos (by omega),ZV,<-Zc]
  have g2:((l.drop i).take (j-i)).getD k ro0=l.getD (i+k) ro0:=by
   rw [Zc,List.getElem?_take,if_pos (by omega),ZV,<-Zc]
  rw [g1,g2]
  exact h3.2 (i+k) (by omega)
theorem But.frozen {E:Option Nat} {w w':World} (h:But E w w') {p:Addr} (hp:p.block<w.heap.size) (hne:some p.block≠E):w'.frozen? p=w.frozen? p:=by
 exact World.frozen?_of_block (h.block p.block hp hne)
theorem Ext.frozenAt {w w':World} (h:Ext w w') (p:Addr) (hp:p.block<w.heap.size):w'.frozen? p=w.frozen? p :=
 But.frozen (But.of_ext h none) hp (by simp)
theorem RosAt.app {w:World} {K:Nat->Prop} {xs ys:List Raw} {l m:List Ro} (h:RosAt w K xs l) (hx:RosAt w K ys m):RosAt w K (xs++ys) (l++m):=by
 refine ⟨by simp [h.1,hx.1],fun k hk=>?_⟩
 rcases Z0 k l.length with h1 | h1
 ·have e1:(xs++ys).getD k raw0=xs.getD k raw0:=by
   rw [Zc,ZN (by rw [h.1];exact h1),<-Zc]
  have e2:(l++m).getD k ro0=l.getD k ro0:=by
   rw [Zc,ZN h1,<-Zc]
  rw [e1,e2]
  exact h.2 k h1
 ·rw [Zb] at hk
  have e1:(xs++ys).getD k raw0=ys.getD (k-l.length) raw0:=by
   rw [Zc,ZL (by rw [h.1];exact h1),h.1,<-Zc]
  have e2:(l++m).getD k ro0=m.getD (k-l.length) ro0:=by
   rw [Zc,ZL h1,<-Zc]
  rw [e1,e2]
  exact hx.2 _ (by omega)
section
variable {P:Program} {ops:Array Oper} {rest:List Oper} {o:Oper} {a:Act} {K:Act->World->Prop} {Q:Exit->Act->World->Prop} {E:Prop} {w wx:World}
end
section
variable {H:Type} {enc:TypeId×Value->H} {w:World} {base:Nat} {spare:Nat->Bool} {held:Bool}
theorem zbn {α:Type} {S:Shp α} {P:Program} {Q:α->Prop} {t e:TypeId} {v:Value} {fuel:Nat} {y:DataW H×List MemPlace} (ht:P.underlying t=some (.slice e)) (hC:P.cellsOf e=S.size)
  (hR:∀(fuel:Nat) (cs:List Value) (y:DataW H×List MemPlace),cs.length=S.size->DataW.trod enc P w base spare held fuel e cs=some y->∃x,cs=S.cells x/\Q x)
  (hf:DataW.trod enc P w base spare held fuel t [v]=some y):∃(A:Option Addr) (n c:Nat) (l:List α),v = .slice A n c/\Vec S w A n l/\n<=maxLen/\∀x∈l,Q x:=by
 rcases Go.Deep.open_slice ht hf with ⟨aa,_⟩ | ⟨a,len,cap,m,n,D,Pl,aa,_,hl,hm,aj,_,hi⟩
 ·simp only [List.cons.injEq,and_true] at aa
  subst aa
  exact ⟨none,0,0,[],rfl,Vec.none_ _ _ _,by unfold maxLen;omega,fun x hx=>by cases hx⟩
 ·simp only [List.cons.injEq,and_true] at aa
  subst aa
  have ak:len<=m:=by rw [aj];split <;> omega
  have key:∀k,k<=m->∃l:List α,l.length=k/\(∀x∈l,Q x)/\∀i x,l[i]?=some x->∀j u,(S.cells x)[j]?=some u->w.cell? (a.add (i*S.size+j))=some u:=by
   intro k
   induction k with
   | zero=>intro _;exact ⟨[],rfl,fun x hx=>(by cases hx),fun i x hx=>by simp at hx⟩
   | succ k ih =>
    intro hk
    obtain ⟨l,ab,ae,ac⟩:=ih (by omega)
    obtain ⟨cs',af,ag⟩:=hi k (by omega)
    rw [hC] at af
    obtain ⟨_,ah,ai⟩:=World.cells?_some af
    obtain ⟨x,rfl,al⟩:=hR n cs' _ ah ag
    refine ⟨l++[x],by simp [ab],fun z hz=>(by
     rcases ZA.1 hz with h | h
     ·exact ae z h
     ·simp at h;subst h;exact al),fun i y hy j u hu=>?_⟩
    rcases Z0 i k with ad | ad
    ·rw [ZN (by omega)] at hy
     exact ac i y hy j u hu
    ·rw [ZL (by omega),ab] at hy
     obtain ⟨h0,h1⟩:=ZK.1 hy
     have ad:i=k:=by simp at h0;omega
     subst ad
     simp at h1
     subst h1
     have hj:j<S.size:=by rw [<-S.len x];exact (ZK.1 hu).1
     rw [<-Go.Deep.add_add,ai j hj]
     exact hu
  obtain ⟨l,ab,ae,ac⟩:=key len ak
  refine ⟨some a,len,cap,l,rfl,Vec.of_add ab fun hn=>⟨a,rfl,?_,ac⟩,by omega,ae⟩
  obtain ⟨x0,h0⟩:∃x,l[0]?=some x:=⟨l[0]'(by omega),Zd (by omega)⟩
  obtain ⟨u0,am⟩:∃u,(S.cells x0)[0]?=some u:=⟨(S.cells x0)[0]'(by rw [S.len];exact S.pos),Zd (by rw [S.len];exact S.pos)⟩
  have h1:=Zn w _ (ac 0 x0 h0 0 u0 am)
  simpa [Addr.add] using h1
theorem zdD {fuel:Nat} {v:Value} {y:DataW H×List MemPlace} (h:DataW.trod enc Tryz.prog w base spare held fuel 73 [v]=some y) :
  ∃(A:Option Addr) (n c:Nat) (l:List St),v = .slice A n c/\Vec shSt w A n l/\n<=maxLen/\Bytes l:=by
 have hv:∃(A:Option Addr) (n c:Nat),v = .slice A n c:=by
  rcases DataW.trod_slice Tryz.underlying73 h with ⟨h0,_⟩ | ⟨a,len,cap',elems,rest,m,hfu,ab,_⟩
  ·simp only [List.cons.injEq,and_true] at h0
   exact ⟨none,0,0,h0⟩
  ·simp only [List.cons.injEq,and_true] at ab
   exact ⟨some a,len,cap',ab⟩
 obtain ⟨A,n,c,rfl⟩:=hv
 suffices hs:∃(A':Option Addr) (n' c':Nat) (l:List St),Value.slice A n c = .slice A' n' c'/\Vec shSt w A' n' l/\n'<=maxLen/\∀s∈l,0<=s.k/\s.k<=255 by
  obtain ⟨A',n',c',l,h1,h2,h3,h4⟩:=hs
  exact ⟨A',n',c',l,h1,h2,h3,zhj h4⟩
 refine zbn Tryz.underlying73 (by kernel_rfl) (fun fuel cs y hl hy=>?_) h
 obtain ⟨xs,m,_,_,_,ad,aa⟩:=DataW.trod_struct Tryz.underlying132 hy
 match cs,hl with
 | [c0,c1,c2,c3],_ =>
  match xs,ad with
  | [y0,y1,y2,y3],_ =>
   have C0:Tryz.prog.cellsOf 5=1:=by kernel_rfl
   have C1:Tryz.prog.cellsOf 4=1:=by kernel_rfl
   have C2:Tryz.prog.cellsOf 3=1:=by kernel_rfl
   have h0:=aa 0 _ rfl
   have h1:=aa 1 _ rfl
   have h2:=aa 2 _ rfl
   have h3:=aa 3 _ rfl
   simp [C0,C1,C2] at h0 h1 h2 h3
   obtain ⟨n0,e0,_,wf0⟩:=DataW.trod_int Tryz.underlying5 h0
   have ac:=bounds_u8 wf0
   obtain ⟨n1,e1,_⟩:=DataW.trod_bool Tryz.underlying4 h1
   obtain ⟨n2,e2,_⟩:=DataW.trod_int Tryz.underlying3 h2
   obtain ⟨n3,e3,_⟩:=DataW.trod_int Tryz.underlying3 h3
   simp at e0 e1 e2 e3
   subst e0
   subst e1
   subst e2
   subst e3
   exact ⟨⟨n0,n1,n2,n3⟩,rfl,ac⟩
theorem zcW {fuel:Nat} {v:Value} {y:DataW H×List MemPlace} (h:DataW.trod enc Tryz.prog w base spare held fuel 22 [v]=some y) :
  ∃(A:Option Addr) (n c:Nat) (l:List Ro),v = .slice A n c/\Rws w (fun _=>True) A n l:=by
 obtain ⟨A,n,c,xs,e,hv,hm,hq⟩:=zbn (S:=shRaw) (Q:=fun x=>∃r,RoAt w (fun _=>True) x r) Tryz.underlying22 (by kernel_rfl) (fun fuel cs y hl hy=>by
  obtain ⟨xs,m,_,_,_,ab,aa⟩:=DataW.trod_struct Tryz.underlying75 hy
  match cs,hl with
  | [c0,c1],_ =>
   match xs,ab with
   | [y0,y1],_ =>
    have C1:Tryz.prog.cellsOf 4=1:=by kernel_rfl
    have C2:Tryz.prog.cellsOf 73=1:=by kernel_rfl
    have h0:=aa 0 _ rfl
    have h1:=aa 1 _ rfl
    simp [C1,C2] at h0 h1
    obtain ⟨b,e1,_⟩:=DataW.trod_bool Tryz.underlying4 h0
    obtain ⟨A',n',c',l,rfl,hv,hm,hb⟩:=zdD h1
    simp at e1
    subst e1
    exact ⟨⟨b,A',n',c'⟩,rfl,⟨b,l⟩,rfl,hv,hm,hb,fun _ _ _ _=>trivial⟩) h
 have key:∀xs:List Raw,(∀x∈xs,∃r,RoAt w (fun _=>True) x r)->∃l,RosAt w (fun _=>True) xs l:=by
  intro xs
  induction xs with
  | nil=>intro _;exact ⟨[],rfl,fun k hk=>by simp at hk⟩
  | cons x xs ih =>
   intro hx
   obtain ⟨r,hr⟩:=hx x (by simp)
   obtain ⟨l,hl⟩:=ih (fun z hz=>hx z (by simp [hz]))
   refine ⟨r::l,by simp [hl.1],fun k hk=>?_⟩
   cases k with
   | zero=>simpa using hr
   | succ k=>simpa using hl.2 k (by simpa using hk)
 obtain ⟨l,hl⟩:=key xs hq
 exact ⟨A,n,c,l,e,hm,xs,hv,fun _ _ _ _=>trivial,hl⟩
end
end Go.Proofs.YtkneghkbgingdaaGreatDoor
/- Rows that a call has put together;their cells lie in blocks of the call's own (nothing is said of who may write them). -/
namespace Go.Proofs.YtkneghkbgingdaaGreatDoor
set_option maxRecDepth 100000
open Go.RowKit Go.ChangeShapes Go.WideShapes Go.Joins
abbrev Kq (B:Nat) (v:Value) (b:Nat):Prop:=B<=b/\some b≠v.ownBlock
def OwnQ (w:World) (B:Nat) (e:TypeId) (v:Value) (k:Nat) (l:List Ro):Prop:=∃xs:List Raw,OwnV shRaw w B e v k xs/\RosAt w (Kq B v) xs l/\∀x∈xs,x.n<=x.c
theorem OwnQ.nil (w:World) (B:Nat) (e:TypeId):OwnQ w B e (.slice none 0 0) 0 []:=⟨[],OwnV.nil _ _ _ _,⟨rfl,fun k hk=>by simp at hk⟩,fun x hx=>by cases hx⟩
theorem OwnQ.ext {w w':World} {B:Nat} {e:TypeId} {v:Value} {k:Nat} {l:List Ro} (h:OwnQ w B e v k l) (hb:Ext w w'):OwnQ w' B e v k l:=by
 obtain ⟨xs,h1,h2,h3⟩:=h
 exact ⟨xs,h1.ext hb,h2.keep (Zl hb) fun b hlt hk=>⟨hk,fun o=>Zs (p:=⟨b,o,none⟩) hb hlt⟩,h3⟩
theorem OwnQ.len {w:World} {B:Nat} {e:TypeId} {v:Value} {k:Nat} {l:List Ro} (h:OwnQ w B e v k l):l.length=k:=by
 obtain ⟨xs,h1,h2, -⟩:=h
 rw [<-h2.1];exact h1.len
theorem OwnQ.blk {w:World} {B:Nat} {e:TypeId} {v:Value} {k:Nat} {l:List Ro} (h:OwnQ w B e v k l):∀b,v.ownBlock=some b->B<=b/\b<w.heap.size:=by
 obtain ⟨xs,h1,_⟩:=h
 exact h1.blk
theorem zbE {w:World} {B k:Nat} {e:TypeId} {v:Value} {l:List Ro} (h:OwnQ w B e v k l) (hk:k<=1000000):∃A c,v = .slice A k c/\Rws w (fun b=>B<=b) A k l:=by
 obtain ⟨xs,h1,h2, -⟩:=h
 obtain ⟨A,c,rfl,hv,hb⟩:=zaf h1
 exact ⟨A,c,rfl,by unfold maxLen;omega,xs,hv,hb,h2.keep (Zg _) fun b _ hx=>⟨hx.1,fun _=>rfl⟩⟩
theorem OwnQ.row {w:World} {B k:Nat} {e:TypeId} {A:Option Addr} {c:Nat} {l:List Ro} (h:OwnQ w B e (.slice A k c) k l) {j:Nat} (hj:j<k) :
  ∃(b off:Nat) (x:Raw),A=some ⟨b,off,none⟩/\b<w.heap.size/\w.cell? ⟨b,off+j*2,none⟩=some (.bool x.b)/\w.cell? ⟨b,off+j*2+1,none⟩=some (.slice x.A x.n x.c)/\RoAt w (Kq B (.slice A k c)) x (l.getD j ro0)/\x.n<=x.c:=by
 have hl:=h.len
 obtain ⟨xs,h1,h2,h3⟩:=h
 obtain ⟨A',c',e1,hv, -⟩:=zaf h1
 cases e1
 obtain ⟨b,off,e2,hlt,hc⟩:=hv.2 (by omega)
 have hx:xs[j]?=some (xs.getD j raw0):=zjZ (by rw [h2.1];omega)
 exact ⟨b,off,xs.getD j raw0,e2,hlt,hc j _ hx 0 _ rfl,hc j _ hx 1 _ rfl,h2.2 j (by omega),h3 _ (Z7 hx)⟩
theorem zbH {w:World} {K:Nat->Prop} {x:Raw} {r:Ro} (h:RoAt w K x r):RosAt w K [x] [r]:=⟨rfl,fun k hk=>by
 obtain rfl:k=0:=by simp at hk;omega
 exact h⟩
section
variable {P:Program} {ops:Array Oper} {rest:List Oper} {o:Oper} {a:Act} {K:Act->World->Prop} {Q:Exit->Act->World->Prop} {E:Prop} {w wx:World}
theorem ze9 (T e:TypeId) (z:Value) (bytes:Nat) {s x:Operand} {v:Value} {k m c:Nat} {A:Option Addr} {t r:List Ro} {ys:List Raw}
  (ho:o.op = .call { callee := .builtin .append,args:=#[s,x],argTypes:=#[T,T] })
  (ht:P.underlying T=some (.slice e)) (hinfo:(P.info? e).map (fun i=>(i.zero,i.size,i.bytes))=some (some z,shRaw.size,bytes)) (hzs:z.cells.size=2) (hby:bytes<=1000)
  (hs:a.eval s=v) (hx:a.eval x = .slice A m c) (hown:OwnQ wx w.heap.size e v k t) (hext:Ext w wx) (hv:Vec shRaw wx A m ys) (hr:RosAt wx (Kq w.heap.size v) ys r) (hcp:∀y∈ys,y.n<=y.c) (hk:k+m<=1000000)
  (h:∀v' w1,OwnQ w1 w.heap.size e v' (k+m) (t++r)->Hid (Ext w w1)->K (a.put o.dst v') w1):o.wp P a wx K Q:=by
 obtain ⟨xs,h1,h2,h5⟩:=hown
 refine zaC (news:=ys.flatMap shRaw.cells) T e z 2 bytes ho ht hinfo hzs (by omega) hby hs hx h1 hext (by rw [zbf,hv.1];rfl) (fun hm=>by
   obtain ⟨b,off,hA,_,_⟩:=hv.2 hm
   subst hA
   exact ⟨_,rfl,hv.cells_at⟩) (fun u hu=>by obtain ⟨y,_,hy⟩:=ZS.1 hu;exact shRaw.one y u hy) hk ?_
 intro v' w1 g1 g2 g3 g4
 have hb:∀b,b<wx.heap.size->Kq w.heap.size v b->Kq w.heap.size v' b/\∀o,w1.cell? ⟨b,o,none⟩=wx.cell? ⟨b,o,none⟩:=fun b hlt hb=>by
  refine ⟨⟨hb.1,?_⟩,fun o=>But.cell (p:=⟨b,o,none⟩) g3 hlt hb.2⟩
  rcases g4 with g4 | g4
  ·rw [g4];exact hb.2
  ·rw [g4];intro e;cases e;omega
 refine h v' w1 ⟨xs++ys,?_,(h2.keep (But.size g3) hb).app (hr.keep (But.size g3) hb),fun x hx=>(ZA.1 hx).elim (h5 x) (hcp x)⟩ g2
 unfold OwnV
 rw [Z1]
 exact g1
theorem zak (T e:TypeId) (z:Value) (bytes:Nat) {s x:Operand} {v:Value} {k m c:Nat} {A:Option Addr} {t r:List Ro} {ys:List Raw} (hgd:o.guard=none)
  (ho:o.op = .call { callee := .builtin .append,args:=#[s,x],argTypes:=#[T,T] })
  (ht:P.underlying T=some (.slice e)) (hinfo:(P.info? e).map (fun i=>(i.zero,i.size,i.bytes))=some (some z,shRaw.size,bytes)) (hzs:z.cells.size=2) (hby:bytes<=1000)
  (hs:a.eval s=v) (hx:a.eval x = .slice A m c) (hown:OwnQ wx w.heap.size e v k t) (hext:Ext w wx) (hv:Vec shRaw wx A m ys) (hr:RosAt wx (Kq w.heap.size v) ys r) (hcp:∀y∈ys,y.n<=y.c) (hk:k+m<=1000000)
  (h:∀v' w1,OwnQ w1 w.heap.size e v' (k+m) (t++r)->Hid (Ext w w1)->wpList P ops Q rest (a.put o.dst v') w1):wpList P ops Q (o::rest) a wx :=
 wpList_plain hgd fun _ hK=>ze9 T e z bytes ho ht hinfo hzs hby hs hx hown hext hv hr hcp hk fun v' w' h2 h3=>hK _ _ (h v' w' h2 h3)
end
end Go.Proofs.YtkneghkbgingdaaGreatDoor
/- Written instructions,plain: the rounds of Rows. -/
namespace Go.Proofs.YtkneghkbgingdaaGreatDoor
set_option maxRecDepth 100000
theorem zkX {l:List Ro} {f i:Nat} (h:l.length<=i):rowsT l f i=some []:=by
 cases f with
 | zero=>rfl
 | succ f=>rw [rowsT,if_pos h]
theorem zkW {l:List Ro} {f i k m:Nat} (hi:i<l.length) (ha:agnT l i=(k,m)) (hm:0<m):rowsT l (f+1) i=(rowsT l f (i+k*m)).map fun r=>agnB++decD k++32::decD m++10::r:=by
 rw [rowsT,if_neg (by omega),ha,if_pos hm]
theorem zea {l:List Ro} {f i:Nat} (hi:i<l.length) (ha:(agnT l i).2=0):rowsT l (f+1) i=(lineT (l.getD i ro0)).bind fun s=>(rowsT l f (i+1)).map fun r=>s++10::r:=by
 rw [rowsT,if_neg (by omega),if_neg (by omega)]
def RowSt (l:List Ro) (i:Nat) (T:List UInt8):Prop:=∃f,l.length-i<f/\rowsT l (l.length+1) 0=(rowsT l f i).map (T ++ ·)
theorem RowSt.start (l:List Ro):RowSt l 0 []:=⟨l.length+1,by omega,by simp⟩
theorem RowSt.fin {l:List Ro} {i:Nat} {T:List UInt8} (h:RowSt l i T) (hi:l.length<=i):rowsT l (l.length+1) 0=some T:=by
 obtain ⟨f,h1,h2⟩:=h
 rw [h2,zkX hi]
 simp
theorem RowSt.agn {l:List Ro} {i k m:Nat} {T:List UInt8} (h:RowSt l i T) (hi:i<l.length) (ha:agnT l i=(k,m)) (hm:0<m) (hk:1<=k):RowSt l (i+k*m) (T++(agnB++decD k++32::decD m++[10])):=by
 obtain ⟨f,h1,h2⟩:=h
 obtain ⟨f,rfl⟩:∃g,f=g+1:=⟨f-1,by omega⟩
 have hp:0<k*m:=Nat.mul_pos (by omega) hm
 refine ⟨f,by omega,?_⟩
 rw [h2,zkW hi ha hm]
 cases rowsT l f (i+k*m) <;> simp
theorem RowSt.line {l:List Ro} {i:Nat} {T s:List UInt8} (h:RowSt l i T) (hi:i<l.length) (ha:(agnT l i).2=0) (hs:lineT (l.getD i ro0)=some s):RowSt l (i+1) (T++(s++[10])):=by
 obtain ⟨f,h1,h2⟩:=h
 obtain ⟨f,rfl⟩:∃g,f=g+1:=⟨f-1,by omega⟩
 refine ⟨f,by omega,?_⟩
 rw [h2,zea hi ha,hs]
 cases rowsT l f (i+1) <;> simp
theorem RowSt.none {l:List Ro} {i:Nat} {T:List UInt8} (h:RowSt l i T) (hi:i<l.length) (ha:(agnT l i).2=0) (hs:lineT (l.getD i ro0)=none):rowsT l (l.length+1) 0=none:=by
 obtain ⟨f,h1,h2⟩:=h
 obtain ⟨f,rfl⟩:∃g,f=g+1:=⟨f-1,by omega⟩
 rw [h2,zea hi ha,hs]
 rfl
theorem zjq {l:List Ro} {i:Nat} (h:repT l i 1<2*repT l i 2):agnT l i=(2,repT l i 2)/\0<repT l i 2:=⟨by rw [agnT,if_pos h],by omega⟩
theorem zjp {l:List Ro} {i:Nat} (h:¬repT l i 1<2*repT l i 2):agnT l i=(1,repT l i 1):=by rw [agnT,if_neg h]
theorem zff {l:List Ro} {i k m:Nat} (hi:i<=l.length) (ha:agnT l i=(k,m)) (hm:0<m):i+k*m<=l.length/\1<=k/\k<=2/\m<=l.length:=by
 have hk:1<=(agnT l i).1/\(agnT l i).1<=2:=by unfold agnT;split <;> simp
 have aa:(agnT l i).2=repT l i (agnT l i).1:=by unfold agnT;split <;> rfl
 rw [ha] at hk aa
 simp only at hk aa
 have hp:0<k*m:=Nat.mul_pos (by omega) hm
 have h1:=znv (l:=l) (i:=i) (k:=k) (j:=k*m-1) hi (by rw [<-aa];omega)
 have h2:m<=k*m:=by
  calc m=1*m:=(Nat.one_mul m).symm
   _<=k*m:=Nat.mul_le_mul_right m hk.1
 exact ⟨by omega,hk.1,hk.2,by omega⟩
theorem zmd {r:Ro} {s:List UInt8} (h:lineT r=some s) (h1:tchkE (termsT r.cells)=0):s.length<=3006:=by
 unfold lineT at h
 split at h
 ·cases h
 ·rename_i h3
  cases h
  have hE:ttextE (termsT r.cells)=0:=Classical.not_not.1 h3
  have hlen:(wT (termsT r.cells)).length<=3000:=by
   rw [ttextE,if_neg (fun h9=>h9 h1)] at hE
   split at hE
   ·cases hE
   ·omega
  have hs:(sideB r.back).length<=5:=by cases r.back <;> decide
  rw [Zb]
  split
  ·simp;omega
  ·simp only [Zk];omega
theorem zh7 {s:Int} {l:List Ro} {x:Int} (h:chkC s l=x) (h0:x≠0):rowsE s l=x/\rowsV s l=[]:=by
 have h1:rowsE s l=x:=by rw [rowsE,h,if_pos h0]
 exact ⟨h1,by rw [rowsV,h1,if_neg h0]⟩
theorem zfX {s:Int} {l:List Ro} (h:chkC s l=0) (hr:rowsT l (l.length+1) 0=none):rowsE s l=4/\rowsV s l=[]:=by
 have h1:rowsE s l=4:=by rw [rowsE,h,if_neg (by simp),hr]
 exact ⟨h1,by rw [rowsV,h1,if_neg (by decide)]⟩
theorem zfW {s:Int} {l:List Ro} {T:List UInt8} (h:chkC s l=0) (hr:rowsT l (l.length+1) 0=some T) (hT:60000<T.length):rowsE s l=4/\rowsV s l=[]:=by
 have h1:rowsE s l=4:=by rw [rowsE,h,if_neg (by simp),hr];simp only;rw [if_pos hT]
 exact ⟨h1,by rw [rowsV,h1,if_neg (by decide)]⟩
theorem zfV {s:Int} {l:List Ro} {T:List UInt8} (h:chkC s l=0) (hr:rowsT l (l.length+1) 0=some T) (hT:¬60000<T.length):rowsE s l=0/\rowsV s l=T:=by
 have h1:rowsE s l=0:=by rw [rowsE,h,if_neg (by simp),hr];simp only;rw [if_neg hT]
 exact ⟨h1,by rw [rowsV,if_pos h1,hr];rfl⟩
end Go.Proofs.YtkneghkbgingdaaGreatDoor
/- Written instructions,plain: the rounds of the readers;what ReadRows returns. -/
namespace Go.Proofs.YtkneghkbgingdaaGreatDoor
set_option maxRecDepth 100000
section
variable {at_:List UInt8->Option Int} {acc l:List Ro} {s rest:List UInt8}
theorem zhe (h:addP at_ acc s=some l):l.length<=100:=by
 unfold addP at h
 split at h
 ·simp only at h
  split at h
  ·cases h
  ·rename_i h1
   split at h
   ·rename_i h2
    cases h
    rw [zir]
    have h3:(0:Int)<=numP at_ (cutA 32 (List.drop 6 s)).fst*numP at_ (cutA 32 (List.drop 6 s)).snd:=Int.mul_nonneg (by omega) (by omega)
    omega
   ·cases h
 ·split at h
  ·cases h
  ·split at h
   ·cases h
   ·split at h
    ·cases h
     rw [Zb,Zv]
     omega
    ·cases h
end
end Go.Proofs.YtkneghkbgingdaaGreatDoor
/- The reader of terms in plain Lean: what is left is the end of what was there. -/
namespace Go.Proofs.YtkneghkbgingdaaGreatDoor
set_option maxRecDepth 100000
theorem zej:∀s:List UInt8,(untilS s).2 <:+ s:=by
 intro s
 induction s with
 | nil=>exact List.suffix_refl _
 | cons x l ih =>
  rw [untilS]
  split
  ·exact List.suffix_refl _
  ·exact ih.trans (List.suffix_cons x l)
theorem zgP {at_:List UInt8->Option Int} {c:St} {g:Tms} {s:List UInt8} {x:(Int×St×Tms)×List UInt8} (h:rdN at_ c g s=some x):x.2 <:+ s:=by
 unfold rdN at h
 split at h
 ·rename_i s'
  split at h
  ·cases h
  ·cases h
   exact (zej s').trans (List.suffix_cons _ _)
 ·cases h
  exact List.suffix_refl _
theorem zkJ (at_:List UInt8->Option Int):∀f,(∀d s x,rdT at_ f d s=some x->x.2 <:+ s)/\(∀d s x,rdL at_ f d s=some x->x.2 <:+ s/\x.1.cnt+x.2.length<=s.length+1):=by
 intro f
 induction f with
 | zero=>exact ⟨fun d s x h=>(by rw [rdT] at h;cases h),fun d s x h=>(by rw [rdL] at h;cases h)⟩
 | succ f ih =>
  refine ⟨fun d s x h=>?_,fun d s x h=>?_⟩
  ·unfold rdT at h
   split at h
   ·rename_i s1
    split at h
    ·cases h
    ·split at h
     ·rename_i g s2 h2
      have h3:=(ih.2 _ _ _ h2).1
      have h4:=zgP h
      exact ((h4.trans (List.suffix_cons _ _)).trans h3).trans (List.suffix_cons _ _)
     ·cases h
   ·split at h
    ·exact (zgP h).trans (zej _)
    ·cases h
  ·rw [rdL] at h
   split at h
   ·cases h
   ·rename_i n c g s2 h2
    have h3:=ih.1 _ _ _ h2
    obtain ⟨y,hy,e⟩:=ZH.1 h
    subst e
    obtain ⟨h4,h5⟩:=ih.2 _ _ _ hy
    have h6:=h3.length_le
    simp only [Zk] at h6
    refine ⟨(h4.trans (List.suffix_cons _ _)).trans h3,?_⟩
    simp only [Tms.cnt]
    omega
   ·rename_i n c g s1 hne h2
    cases h
    have h3:=ih.1 _ _ _ h2
    have h6:=h3.length_le
    refine ⟨h3,?_⟩
    simp only [Tms.cnt]
    simp only at h6
    omega
end Go.Proofs.YtkneghkbgingdaaGreatDoor
/- The reader of terms in plain Lean: its steps by what is taken. -/
namespace Go.Proofs.YtkneghkbgingdaaGreatDoor
set_option maxRecDepth 100000
theorem zkG (at_:List UInt8->Option Int) (c:St) (g:Tms) (s:List UInt8):rdN at_ c g s=if hitB 42 s=true then (at_ (untilS (hitR 42 s)).1).map (fun n=>((n,c,g),(untilS (hitR 42 s)).2)) else some ((1,c,g),s):=by
 cases s with
 | nil=>rfl
 | cons y r =>
  by_cases h:y=42
  ·subst h
   rw [rdN]
   simp only [hitB,hitR,beq_self_eq_true,if_true]
   cases at_ (untilS r).1 <;> rfl
  ·have h1:hitB 42 (y::r)=false:=by simp [hitB,h]
   rw [h1,if_neg (by simp),rdN]
   intro s e
   cases e
   exact h rfl
theorem zkH (at_:List UInt8->Option Int) (f d:Nat) (s1:List UInt8):rdT at_ (f+1) d (40::s1)=if 8<d+1 then none else (rdL at_ f (d+1) s1).bind fun x=>if hitB 41 x.2=true then rdN at_ st0 x.1 (hitR 41 x.2) else none:=by
 rw [rdT]
 split
 ·rfl
 ·cases h:rdL at_ f (d+1) s1 with
  | none=>rfl
  | some x =>
   obtain ⟨g,r⟩:=x
   rw [Zz]
   cases r with
   | nil=>rfl
   | cons y r =>
    by_cases h:y=41
    ·subst h;simp [hitB,hitR]
    ·have h1:hitB 41 (y::r)=false:=by simp [hitB,h]
     simp only [h1]
     split
     ·rename_i e
      cases e
      exact absurd rfl h
     ·rfl
theorem zmB (at_:List UInt8->Option Int) (f d:Nat) {s:List UInt8} (h:hitB 40 s=false):rdT at_ (f+1) d s=match parseL (untilS s).1 with
  | some [c]=>rdN at_ c .nil (untilS s).2
  | _=>none:=by
 rw [rdT]
 ·rfl
 ·intro s1 e
  rw [e] at h
  simp [hitB] at h
theorem zh2 (at_:List UInt8->Option Int) (f d:Nat) (s:List UInt8):rdL at_ (f+1) d s=(rdT at_ f d s).bind fun x=>if hitB 32 x.2=true then (rdL at_ f d (hitR 32 x.2)).map (fun y=>(Tms.cons x.1.1 x.1.2.1 x.1.2.2 y.1,y.2)) else some (Tms.cons x.1.1 x.1.2.1 x.1.2.2 .nil,x.2):=by
 rw [rdL]
 cases h:rdT at_ f d s with
 | none=>rfl
 | some x =>
  obtain ⟨⟨n,c,g⟩,r⟩:=x
  rw [Zz]
  cases r with
  | nil=>rfl
  | cons y r =>
   by_cases h:y=32
   ·subst h;simp [hitB,hitR]
   ·have h1:hitB 32 (y::r)=false:=by simp [hitB,h]
    simp only [h1]
    split
    ·rename_i e;cases e
    ·rename_i e;cases e;exact absurd rfl h
    ·rename_i e;cases e;rfl
end Go.Proofs.YtkneghkbgingdaaGreatDoor
/- number: what is read of the digits in front. -/
namespace Go.Proofs.YtkneghkbgingdaaGreatDoor
set_option maxRecDepth 100000
open Go.RowKit
theorem zo0 {l:List UInt8} (h:headD 4 l=0):numR l=(-1,l):=by rw [numR,if_pos h]
theorem zo1 {l:List UInt8} (h:headD 4 l≠0):numR l=((valD (l.take (headD 4 l)):Int),l.drop (headD 4 l)):=by rw [numR,if_neg h]
theorem zaE (l:List UInt8) (hl:l.length<=100000) (w:World) (hg:Glob w) :
  Calls Tryz.prog 198 #[.string ⟨l.toArray⟩] w fun e w'=>e = .returned (.tuple #[.int .i64 (numR l).1,.string ⟨(numR l).2.toArray⟩])/\Ext w w':=by
 have HG:=Za hg
 obtain ⟨ag,ah,af⟩:=zl3 4 l
 have HD:=Za af
 have HP:=Za (fun k=>ziw (k:=4) (l:=l) (n:=k))
 obtain ⟨N,hN⟩:∃N,headD 4 l=N:=⟨_,rfl⟩
 have HN:=Za hN
 rw [hN] at ag ah HD HP
 clear hg af hN
 have hx0:=fun k=>zar l k
 have hxD:=zai l N l.length (Zg _)
 go_enter Tryz.func198,Tryz.ntmps198
 go_wp2_with fail
 go_loopw [4] (fun i wr=>∃(k:Nat),i = .int .i64 k/\k<=N/\Hid (Ext w wr)) (fun i _=>N-(intOf i).toNat)
 case atStart=>exact ⟨0,rfl,Zy _,Za zx⟩
 case round =>
  obtain ⟨k,rfl,hk,HE⟩:=hrel
  have aa:=HP.out k hk
  by_cases hlt:k<N
  ·obtain ⟨h1,h2,h3⟩:=aa.1 hlt
   have h4:=zds h3
   have h5:=zam l k
   clear aa h3
   have q0:(0:Int)<=(k:Int):=by omega
   have q1:(k:Int)<(l.length:Int):=by omega
   have q2:(k:Int)<4:=by omega
   generalize hc:l.getD k 0=c at *
   have q3:(48:Int)<=(c.toNat:Int):=by omega
   have q4:(c.toNat:Int)<=57:=by omega
   clear hc
   go_wp2_with fail
   go_roundw
   case rel=>exact ⟨k+1,by go_num,by omega,Za (by have:=HE.out;repeat (first|exact zr _|assumption|refine za ?_ _|refine zd ?_|refine zn ?_ _|refine zt ?_ (by assumption)))⟩
   case measure=>simp [intOf];omega
  ·obtain rfl:N=k:=by omega
   have ab:¬(N<4/\N<l.length/\isDg (l.getD N 0)=true):=fun h=>hlt (aa.2 h)
   by_cases hN0:N=0
   ·subst hN0
    have HR:=Za (zo0 HN.out)
    have hz:(⟨l.toArray⟩:ByteArray).extract 0 0=⟨#[]⟩:=by rw [zar];rfl
    by_cases hl4:0<4
    ·by_cases hll:0<l.length
     ·have h5:=zam l 0
      have q0:(0:Int)<=(0:Int):=by omega
      have q1:(0:Int)<(l.length:Int):=by omega
      have q2:(0:Int)<4:=by omega
      have ae:¬isDg (l.getD 0 0)=true:=fun h=>ab ⟨hl4,hll,h⟩
      generalize hc:l.getD 0 0=c at *
      have ac:c.toNat<48∨57<c.toNat:=by
       by_cases h6:c.toNat<48
       ·exact .inl h6
       ·right
        rcases Z0 57 c.toNat with h7 | h7
        ·exact h7
        ·exfalso
         apply ae
         simp only [isDg,Zt,ZG,UInt8.le_iff_toNat_le]
         exact ⟨by simpa using Nat.le_of_not_lt h6,by simpa using h7⟩
      clear hc ae ab aa
      rcases ac with h6 | h6
      ·have q3:(c.toNat:Int)<48:=by omega
       go_wp2_with (go_at_call 114;(((with_reducible refine (zbl _ (HG.out.ext (by have:=HE.out;repeat (first|exact zr _|assumption|refine za ?_ _|refine zd ?_|refine zn ?_ _|refine zt ?_ (by assumption))))).mono ?_);rintro e w1 ⟨⟨te,pe,rfl⟩,hq1⟩)))
       go_ret2
       exact ⟨by rw [HR.out];rfl,by have:=HE.out;repeat (first|exact zr _|assumption|refine za ?_ _|refine zd ?_|refine zn ?_ _|refine zt ?_ (by assumption))⟩
      ·have q3:(57:Int)<(c.toNat:Int):=by omega
       have q4:(48:Int)<=(c.toNat:Int):=by omega
       go_wp2_with (go_at_call 114;(((with_reducible refine (zbl _ (HG.out.ext (by have:=HE.out;repeat (first|exact zr _|assumption|refine za ?_ _|refine zd ?_|refine zn ?_ _|refine zt ?_ (by assumption))))).mono ?_);rintro e w1 ⟨⟨te,pe,rfl⟩,hq1⟩)))
       go_ret2
       exact ⟨by rw [HR.out];rfl,by have:=HE.out;repeat (first|exact zr _|assumption|refine za ?_ _|refine zd ?_|refine zn ?_ _|refine zt ?_ (by assumption))⟩
     ·have q1:¬((0:Int)<(l.length:Int)):=by omega
      clear aa ab
      go_wp2_with (go_at_call 114;(((with_reducible refine (zbl _ (HG.out.ext (by have:=HE.out;repeat (first|exact zr _|assumption|refine za ?_ _|refine zd ?_|refine zn ?_ _|refine zt ?_ (by assumption))))).mono ?_);rintro e w1 ⟨⟨te,pe,rfl⟩,hq1⟩)))
      go_ret2
      exact ⟨by rw [HR.out];rfl,by have:=HE.out;repeat (first|exact zr _|assumption|refine za ?_ _|refine zd ?_|refine zn ?_ _|refine zt ?_ (by assumption))⟩
    ·have q2:¬((0:Int)<4):=by omega
     by_cases hll:0<l.length
     ·have q1:(0:Int)<(l.length:Int):=by omega
      clear aa ab
      go_wp2_with (go_at_call 114;(((with_reducible refine (zbl _ (HG.out.ext (by have:=HE.out;repeat (first|exact zr _|assumption|refine za ?_ _|refine zd ?_|refine zn ?_ _|refine zt ?_ (by assumption))))).mono ?_);rintro e w1 ⟨⟨te,pe,rfl⟩,hq1⟩)))
      go_ret2
      exact ⟨by rw [HR.out];rfl,by have:=HE.out;repeat (first|exact zr _|assumption|refine za ?_ _|refine zd ?_|refine zn ?_ _|refine zt ?_ (by assumption))⟩
     ·have q1:¬((0:Int)<(l.length:Int)):=by omega
      clear aa ab
      go_wp2_with (go_at_call 114;(((with_reducible refine (zbl _ (HG.out.ext (by have:=HE.out;repeat (first|exact zr _|assumption|refine za ?_ _|refine zd ?_|refine zn ?_ _|refine zt ?_ (by assumption))))).mono ?_);rintro e w1 ⟨⟨te,pe,rfl⟩,hq1⟩)))
      go_ret2
      exact ⟨by rw [HR.out];rfl,by have:=HE.out;repeat (first|exact zr _|assumption|refine za ?_ _|refine zd ?_|refine zn ?_ _|refine zt ?_ (by assumption))⟩
   ·have HR:=Za (zo1 (l:=l) (by rw [HN.out];exact hN0))
    rw [HN.out] at HR
    have ad:=Za (fun w'=>zdm (l.take N) (by rw [Zx];omega) HD.out (fun e=>by have h9:=congrArg List.length e;rw [Zx,List.length_nil] at h9;omega) w')
    have hp:(0:Int)<(N:Int):=by omega
    generalize valD (l.take N)=V at *
    generalize l.drop N=R at *
    by_cases hl4:N<4
    ·by_cases hll:N<l.length
     ·have h5:=zam l N
      have q0:(0:Int)<=(N:Int):=by omega
      have q1:(N:Int)<(l.length:Int):=by omega
      have q2:(N:Int)<4:=by omega
      have ae:¬isDg (l.getD N 0)=true:=fun h=>ab ⟨hl4,hll,h⟩
      generalize hc:l.getD N 0=c at *
      have ac:c.toNat<48∨57<c.toNat:=by
       by_cases h6:c.toNat<48
       ·exact .inl h6
       ·right
        rcases Z0 57 c.toNat with h7 | h7
        ·exact h7
        ·exfalso
         apply ae
         simp only [isDg,Zt,ZG,UInt8.le_iff_toNat_le]
         exact ⟨by simpa using Nat.le_of_not_lt h6,by simpa using h7⟩
      clear hc ae ab aa
      rcases ac with h6 | h6
      ·have q3:(c.toNat:Int)<48:=by omega
       go_wp2_with (go_at_call 114;(((with_reducible refine (ad.out _).mono ?_);rintro e w1 ⟨rfl,hq1⟩)))
       go_wp2
       go_quiet (fail)
       go_wp2
       go_ret2
       exact ⟨by rw [HR.out];rfl,by have:=HE.out;repeat (first|exact zr _|assumption|refine za ?_ _|refine zd ?_|refine zn ?_ _|refine zt ?_ (by assumption))⟩
      ·have q3:(57:Int)<(c.toNat:Int):=by omega
       have q4:(48:Int)<=(c.toNat:Int):=by omega
       go_wp2_with (go_at_call 114;(((with_reducible refine (ad.out _).mono ?_);rintro e w1 ⟨rfl,hq1⟩)))
       go_wp2
       go_quiet (fail)
       go_wp2
       go_ret2
       exact ⟨by rw [HR.out];rfl,by have:=HE.out;repeat (first|exact zr _|assumption|refine za ?_ _|refine zd ?_|refine zn ?_ _|refine zt ?_ (by assumption))⟩
     ·have q1:¬((N:Int)<(l.length:Int)):=by omega
      clear aa ab
      go_wp2_with (go_at_call 114;(((with_reducible refine (ad.out _).mono ?_);rintro e w1 ⟨rfl,hq1⟩)))
      go_wp2
      go_quiet (fail)
      go_wp2
      go_ret2
      exact ⟨by rw [HR.out];rfl,by have:=HE.out;repeat (first|exact zr _|assumption|refine za ?_ _|refine zd ?_|refine zn ?_ _|refine zt ?_ (by assumption))⟩
    ·have q2:¬((N:Int)<4):=by omega
     by_cases hll:N<l.length
     ·have q1:(N:Int)<(l.length:Int):=by omega
      clear aa ab
      go_wp2_with (go_at_call 114;(((with_reducible refine (ad.out _).mono ?_);rintro e w1 ⟨rfl,hq1⟩)))
      go_wp2
      go_quiet (fail)
      go_wp2
      go_ret2
      exact ⟨by rw [HR.out];rfl,by have:=HE.out;repeat (first|exact zr _|assumption|refine za ?_ _|refine zd ?_|refine zn ?_ _|refine zt ?_ (by assumption))⟩
     ·have q1:¬((N:Int)<(l.length:Int)):=by omega
      clear aa ab
      go_wp2_with (go_at_call 114;(((with_reducible refine (ad.out _).mono ?_);rintro e w1 ⟨rfl,hq1⟩)))
      go_wp2
      go_quiet (fail)
      go_wp2
      go_ret2
      exact ⟨by rw [HR.out];rfl,by have:=HE.out;repeat (first|exact zr _|assumption|refine za ?_ _|refine zd ?_|refine zn ?_ _|refine zt ?_ (by assumption))⟩
end Go.Proofs.YtkneghkbgingdaaGreatDoor
