/- A queue of numbers in memory: taken from at its head, put to at its end. -/
import Derived.ArgAppend
import Derived.Test.YtbjgpbojjhldaaaGreatDoorY24
set_option maxHeartbeats 16000000
namespace Go.Proofs.YtbjgpbojjhldaaaGreatDoor
set_option maxRecDepth 100000
open Go.RowKit Go.ChangeShapes Go.WideShapes Go.Joins
def Que (w:World) (B F:Nat) (e:TypeId) (v:Value) (L:List Int):Prop :=
 ∃A c,v = .slice A L.length c/\Ints w A L.length L/\(((∃b off,A=some ⟨b,off,none⟩/\b≠F)/\c=L.length)∨(OwnI w B e v L.length L/\v.ownBlock≠some F))
theorem Que.ext {w w':World} {B F:Nat} {e:TypeId} {v:Value} {L:List Int} (h:Que w B F e v L) (hb:Ext w w'):Que w' B F e v L:=by
 obtain ⟨A,c,h1,h2,h3⟩:=h
 refine ⟨A,c,h1,h2.ext hb,?_⟩
 rcases h3 with h3 | h3
 ·exact .inl h3
 ·exact .inr ⟨World.ownsRow.kept h3.1 (But.of_ext hb none) (by cases v.ownBlock <;> simp),h3.2⟩
theorem Que.set {w:World} {B F:Nat} {e:TypeId} {v:Value} {L:List Int} (h:Que w B F e v L) (k:Nat) (u:Value):Que (w.setCell ⟨F,k,none⟩ u) B F e v L:=by
 have hb:But (some F) w (w.setCell ⟨F,k,none⟩ u):=(But.refl _ _).own rfl _
 obtain ⟨A,c,h1,h2,h3⟩:=h
 subst h1
 have hA:0<L.length->∀b off,A=some ⟨b,off,none⟩->b≠F:=fun _ b off e=>by
  subst e
  rcases h3 with h3 | h3
  ·obtain ⟨⟨b',off',e2,hne⟩, -⟩:=h3
   cases e2
   exact hne
  ·intro e2
   subst e2
   exact h3.2 rfl
 refine ⟨A,c,rfl,⟨h2.1,fun hn=>?_⟩,?_⟩
 ·obtain ⟨b,off,e1,hlt,hc⟩:=h2.2 hn
  have hne:=hA hn b off e1
  refine ⟨b,off,e1,Zi hlt hb.size,fun j hj=>(hb.cell (p:=⟨b,off+j,none⟩) hlt (by simpa using hne)).trans (hc j hj)⟩
 ·rcases h3 with h3 | h3
  ·exact .inl h3
  ·exact .inr ⟨World.ownsRow.kept h3.1 hb (.inr h3.2),h3.2⟩
section
variable {P:Program} {ops:Array Oper} {rest:List Oper} {o:Oper} {a:Act} {K:Act->World->Prop} {Q:Exit->Act->World->Prop} {E:Prop} {wx:World}
theorem ze2 (T e:TypeId) {s x:Operand} {v:Value} {B F g:Nat} {L:List Int} (X:Int) (ho:o.op = .call { callee := .builtin .append,args:=#[s,x],argTypes:=#[T,T] })
  (ht:P.underlying T=some (.slice e)) (hinfo:(P.info? e).map (fun i=>(i.zero,i.size,i.bytes))=some (some (.int .i64 0),1,8))
  (hs:a.eval s=v) (hx:a.eval x = .slice (some ⟨g,0,none⟩) 1 1) (hq:Que wx B F e v L) (hB:B<=wx.heap.size) (hF:F<wx.heap.size) (hc:wx.cell? ⟨g,0,none⟩=some (.int .i64 X)) (hk:L.length<=100000)
  (h:∀v' w1,Que w1 B F e v' (L++[X])->OwnI w1 B e v' (L.length+1) (L++[X])->v'.ownBlock≠some F->(∃E,But E wx w1/\E≠some F/\∀b,E=some b->B<=b)->K (a.put o.dst v') w1):o.wp P a wx K Q:=by
 obtain ⟨A,c,rfl,hi,hd⟩:=hq
 have fin:∀v' w1,OwnI w1 B e v' (L.length+1) (L++[X])->v'.ownBlock≠some F->Que w1 B F e v' (L++[X]):=fun v' w1 h1 h2=>by
  have hl:(L++[X]).length=L.length+1:=by simp
  obtain ⟨A',c',e1,hv⟩:=zaB h1
  refine ⟨A',c',by rw [hl];exact e1,by rw [hl];exact hv,.inr ⟨by rw [hl];exact h1,h2⟩⟩
 rcases hd with ⟨⟨b,off,rfl, -⟩,rfl⟩ | ⟨aa,hne⟩
 ·obtain ⟨i0,ad,af,hz1,ag⟩:=info_parts hinfo
  obtain ⟨v',w1,ab,r1,r2⟩:=run_append_arg_grows (P:=P) wx T o.type e i0 (.int .i64 0) 1 8 ht ad af hz1 ag rfl (by omega) ⟨b,off,none⟩ L.length L.length (L.map (Value.int .i64)) (by simp)
   (fun j u hj=>by
    obtain ⟨x,hx2,rfl⟩:∃x,L[j]?=some x/\Value.int .i64 x=u:=by simpa using hj
    have ae:=(ZB.1 hx2).1
    obtain ⟨b',off',e1,_,ac⟩:=hi.2 (by omega)
    cases e1
    rw [Addr.add_lit,ac j ae,Zd,hx2]
    rfl) ⟨g,0,none⟩ 1 1 [.int .i64 X] (by simp) (fun j u hj=>by
    rcases j with _ | j
    ·simp at hj
     subst hj
     exact hc
    ·simp at hj) (by omega) (by unfold maxLen;omega) (by omega)
  have r3:OwnI w1 B e v' (L.length+1) (L++[X]):=by
   refine ⟨by simp,?_⟩
   rcases r1.2 with ⟨h1,h2⟩ | ⟨g',cap,cur,h1,hb,h2⟩
   ·omega
   ·exact .inr ⟨g',cap,cur,h1,Zv hB hb,by simpa using h2⟩
  have r4:v'.ownBlock≠some F:=fun e2=>by
   have:=(zas r1 F e2).1
   omega
  unfold Oper.wp
  simp [execOp,ho,resolve,invoke,builtin,hs,hx,ab,Result.andThen]
  exact h v' w1 (fin v' w1 r3 r4) r3 r4 ⟨none,r2,by simp,fun b e2=>by cases e2⟩
 ·refine zby (news:=[.int .i64 X]) T e (.int .i64 0) 1 8 ho ht hinfo rfl (by omega) (by omega) hs hx B aa hB (by simp) (fun _=>⟨_,rfl,fun j u hj=>by
    rcases j with _ | j
    ·simp at hj
     subst hj
     exact hc
    ·simp at hj⟩) (fun u hu=>by simp at hu;subst hu;rfl) (by omega) ?_
  intro v' w1 h1 h2 h3
  have r3:OwnI w1 B e v' (L.length+1) (L++[X]):=by
   unfold OwnI
   rw [List.map_append]
   exact h1
  have r4:v'.ownBlock≠some F:=fun e2=>by
   rcases h3 with h3 | h3
   ·exact hne (h3.symm.trans e2)
   ·rw [h3] at e2
    simp at e2
    omega
  refine h v' w1 (fin v' w1 r3 r4) r3 r4 ⟨_,h2,hne,fun b e2=>(zas aa b e2).1⟩
theorem zcJ (T e:TypeId) {s x:Operand} {v:Value} {B F g:Nat} {L:List Int} (X:Int) (hgd:o.guard=none) (ho:o.op = .call { callee := .builtin .append,args:=#[s,x],argTypes:=#[T,T] })
  (ht:P.underlying T=some (.slice e)) (hinfo:(P.info? e).map (fun i=>(i.zero,i.size,i.bytes))=some (some (.int .i64 0),1,8))
  (hs:a.eval s=v) (hx:a.eval x = .slice (some ⟨g,0,none⟩) 1 1) (hq:Que wx B F e v L) (hB:B<=wx.heap.size) (hF:F<wx.heap.size) (hc:wx.cell? ⟨g,0,none⟩=some (.int .i64 X)) (hk:L.length<=100000)
  (h:∀v' w1,Hid (Que w1 B F e v' (L++[X]))->Hid (v'.ownBlock≠some F)->Hid (∃E,But E wx w1/\E≠some F/\∀b,E=some b->B<=b)->wpList P ops Q rest (a.put o.dst v') w1):wpList P ops Q (o::rest) a wx :=
 wpList_plain hgd fun _ hK=>ze2 T e X ho ht hinfo hs hx hq hB hF hc hk fun v' w' h1 _ h2 h3=>hK _ _ (h v' w' h1 h2 h3)
end
end Go.Proofs.YtbjgpbojjhldaaaGreatDoor
/- slices.Repeat of one int. -/
namespace Go.Proofs.YtbjgpbojjhldaaaGreatDoor
set_option maxRecDepth 100000
open Go.RowKit Go.ChangeShapes Go.WideShapes Go.Joins
def shI:Shp Int where
 size:=1
 cells x:=[.int .i64 x]
 pos:=by omega
 len _:=rfl
 one x u h:=by
  simp at h
  subst h
  rfl
theorem zaJ:(Tryz.prog.info? 3).map (fun i=>(i.zero,i.size,i.bytes))=some (some (.int .i64 0),1,8):=by kernel_rfl
theorem zli {α:Type} {L:List α} {m:Nat} (h:m<=L.length):∃X Y,L=X++Y/\X.length=m:=⟨L.take m,L.drop m,(Z0 m L).symm,by simp;omega⟩
theorem zbu (x:Int) (k:Nat):((List.replicate k x).flatMap shI.cells).length=k*1:=by
 rw [show ((List.replicate k x).flatMap shI.cells).length=(List.replicate k x).length*1 from zaU (S:=shI) _,ZH]
theorem zfN:(Tryz.prog.info? 3).map (·.size)=some 1:=by kernel_rfl
theorem znx {w:World} {B N g k m:Nat} {e:TypeId} {Y:List Value} {x:Int} (h:w.ownsRow B e 1 (.slice (some ⟨g,0,none⟩) N N) N ((List.replicate k x).flatMap shI.cells++Y)) (hk:k<=N) (hm:m<=k) (j:Nat) (u:Value) (hu:((List.replicate m x).flatMap shI.cells)[j]?=some u):w.cell? (Addr.add ⟨g,0,none⟩ j)=some u:=by
 have hj:j<m*1:=by
  have:=(ZB.1 hu).1
  rwa [zbu] at this
 have h1:=World.ownsRow.cellAt h j (by omega)
 obtain ⟨d,rfl⟩:∃d,k=m+d:=⟨k-m,by omega⟩
 rw [<-List.replicate_append_replicate,ZO,Zr,ZT (by rw [zbu];exact hj),hu] at h1
 rw [show Addr.add ⟨g,0,none⟩ j=⟨g,j,none⟩ by cases j <;> simp [Addr.add]]
 exact h1
theorem zkR (x:Int) (k m:Nat) (Y:List Value):(List.replicate k x).flatMap shI.cells++(List.replicate m x).flatMap shI.cells++Y=(List.replicate (k+m) x).flatMap shI.cells++Y:=by
 rw [<-List.replicate_append_replicate,ZO]
theorem zgH {w1:World} {B N:Nat} {e:TypeId} {v:Value} {M:List Value} (hN:1<=N) (h:Hid (w1.ownsRow B e 1 v N M)):∃X Y:List Value,X.length=1/\Hid (w1.ownsRow B e 1 v N ([]++X++Y)):=by
 have hl:M.length=N*1:=h.out.1
 obtain ⟨X,Y,aa,hX⟩:=zli (m:=1) (L:=M) (by omega)
 subst aa
 exact ⟨X,Y,hX,Za h.out⟩
theorem zgT (x:Int) (N:Nat) (hN1:1<=N) (hN2:N<=200) (w:World) (b off c:Nat) (hv:Vec shI w (some ⟨b,off,none⟩) 1 [x]) :
  Calls Tryz.prog 176 #[.slice (some ⟨b,off,none⟩) 1 c,.int .i64 (N:Int)] w fun e w'=>∃v,e = .returned v/\OwnV shI w' w.heap.size 3 v N (List.replicate N x)/\Ext w w':=by
 have HV:=Za (show ∀j u,(shI.cells x)[j]?=some u->w.cell? (Addr.add ⟨b,off,none⟩ j)=some u from fun j u hu=>hv.cells_at j u (by rw [show [x].flatMap shI.cells=shI.cells x from ZF _];exact hu))
 have HM:=Za (show ∀w',Calls Tryz.prog 131 #[.int .u64 1,.int .u64 (N:Int)] w' fun e w''=>e = .returned (.tuple #[.int .u64 0,.int .u64 (N:Int)])/\w''=w' from fun w'=>by
  have h:=Tryz.bits_Mul 1 N (by omega) (by omega) w'
  rw [show 1*N / 18446744073709551616=0 by omega,show 1*N % 18446744073709551616=N by omega] at h
  exact h)
 have q1:(1:Int)<=(N:Int):=by omega
 have q2:(N:Int)<=200:=by omega
 clear hv
 go_enter Tryz.func176,Tryz.ntmps176
 go_wp2_with (first
  | (go_at_call 131;((with_reducible refine (HM.out _).mono ?_);rintro e w1 ⟨rfl,h9⟩;have h8:=h9.symm;clear h9;subst h8))
  | (at_make;(refine zav 51 3 (.int .i64 0) 1 8 N w.heap.size (by rfl) (by rfl) Tryz.underlying51 zaJ (by rfl) (by omega) (by omega) (Zb _) ?_;intro w1 ag ab ad);obtain ⟨X,Y,hX,ah⟩:=zgH hN1 ag;clear ag)
  | (refine za6 3 1 (k:=0) (m:=1) (A:=[]) 51 51 (shI.cells x) (by rfl) (by rfl) Tryz.underlying51 zfN (by rfl) (by rfl) ah.out rfl (show 1=min 1 N by omega) rfl hX (fun j u hu=>(by have h3:=HV.out j u hu;exact (Zl ab.out (Zn w _ h3)).trans h3)) (fun u hu=>shI.one x u hu) ?_;intro w2 ai ae))
 have am:=Za (show w2.ownsRow w.heap.size 3 1 (.slice (some ⟨w.heap.size,0,none⟩) N N) N ((List.replicate 1 x).flatMap shI.cells++Y) from by
  have h9:=ai.out
  rw [show []++shI.cells x++Y=(List.replicate 1 x).flatMap shI.cells++Y by simp [List.flatMap]] at h9
  exact h9)
 have ak:=Za (show Ext w w2 from But.below (But.trans (But.of_ext ab.out _) ae.out) (Zb _) (fun k e=>by cases e;exact Zb _))
 clear ai ae ah hX X
 go_loopw [8] (fun i wr=>∃(k:Nat) (Y:List Value),i = .int .i64 k/\1<=k/\k<=N/\Hid (wr.ownsRow w.heap.size 3 1 (.slice (some ⟨w.heap.size,0,none⟩) N N) N ((List.replicate k x).flatMap shI.cells++Y))/\Hid (Ext w wr)) (fun i _=>N-(intOf i).toNat)
 case atStart=>exact ⟨1,Y,rfl,Zb _,hN1,am,ak⟩
 case round =>
  obtain ⟨k,Y1,rfl,hk1,av,HO,HE⟩:=hrel
  have q3:(1:Int)<=(k:Int):=by omega
  have q4:(k:Int)<=(N:Int):=by omega
  by_cases hlt:k<N
  ·have q5:(k:Int)<(N:Int):=by omega
   have q6:¬N=k:=by omega
   have aa:((List.replicate k x).flatMap shI.cells++Y1).length=N*1:=HO.out.1
   rw [Zc,zbu] at aa
   obtain ⟨X,Y2,au,hX⟩:=zli (m:=(min k (N-k))*1) (L:=Y1) (by omega)
   subst au
   have ac:=Za (show wr.ownsRow w.heap.size 3 1 (.slice (some ⟨w.heap.size,0,none⟩) N N) N ((List.replicate k x).flatMap shI.cells++X++Y2) from by
    rw [Zr];exact HO.out)
   have HD:=Za (World.ownsRow.drew ac.out)
   have aq:=Za (show ∀j u,((List.replicate (min k (N-k)) x).flatMap shI.cells)[j]?=some u->wr.drew.cell? (Addr.add ⟨w.heap.size,0,none⟩ j)=some u from fun j u hu=>znx (World.ownsRow.drew HO.out) av (Nat.min_le_left _ _) j u hu)
   have ap:=Za (show ∀v∈(List.replicate (min k (N-k)) x).flatMap shI.cells,v.oneCell'=true from fun u hu=>by obtain ⟨y,_,hy⟩:=ZI.1 hu;exact shI.one y u hy)
   have ar:=Za (show X.length=((List.replicate (min k (N-k)) x).flatMap shI.cells).length by rw [hX,zbu])
   clear aa hX HV HM ab ad
   go_wp2
   go_region_with ((with_reducible refine zb9 ?_);(refine zbv (wx:=wr.drew) 3 3 1 51 51 _ Tryz.underlying51 zfN HD.out ((zbu x k).trans (Nat.mul_one k)) (show min k (N-k)=Nat.min k (N-k) from rfl) (zbu x _) ar.out aq.out ap.out ?_;intro w5 aj af))
   have al:=Za (show Ext w w5 from But.below (But.trans (But.of_ext (ZR HE.out) (some w.heap.size)) af.out) (Zb _) (fun k e=>by cases e;exact Zb _))
   have ao:=Za (show w5.ownsRow w.heap.size 3 1 (.slice (some ⟨w.heap.size,0,none⟩) N N) N ((List.replicate (k+min k (N-k)) x).flatMap shI.cells++Y2) from by
    rw [<-zkR]
    exact aj.out)
   clear aj af
   have hw:IntKind.i64.wrap ((k:Int)+((min k (N-k):Nat):Int))=((k+min k (N-k):Nat):Int):=by
    have e:=Zj ((k:Int)+((min k (N-k):Nat):Int)) ⟨by omega,by omega⟩
    rw [e]
    omega
   go_roundw
   case rel =>
    exact ⟨.int .i64 (IntKind.i64.wrap ((k:Int)+((min k (N-k):Nat):Int))),_,_,_,_,_,_,_,_,_,_,_,_,_,⟨k+min k (N-k),Y2,by rw [hw],by omega,by omega,ao,al⟩,rfl⟩
   case measure =>
    show N-(IntKind.i64.wrap ((k:Int)+((min k (N-k):Nat):Int))).toNat<N-((k:Nat):Int).toNat
    rw [hw]
    omega
  ·obtain rfl:k=N:=by omega
   have aa:((List.replicate k x).flatMap shI.cells++Y1).length=k*1:=HO.out.1
   rw [Zc,zbu] at aa
   obtain rfl:Y1=[]:=Zz (by omega)
   have ac:=Za (show OwnV shI wr w.heap.size 3 (.slice (some ⟨w.heap.size,0,none⟩) k k) k (List.replicate k x) from by
    have h9:=HO.out
    rw [ZF] at h9
    exact h9)
   go_wp2
   exact bodyPost_ret (v := .slice (some ⟨w.heap.size,0,none⟩) k k) (by simp [results,Tryz.f176,go_sem]) rfl ⟨_,rfl,ac.out,HE.out⟩
end Go.Proofs.YtbjgpbojjhldaaaGreatDoor
/- hang: the places of a list that are not negative. -/
namespace Go.Proofs.YtbjgpbojjhldaaaGreatDoor
set_option maxRecDepth 100000
open Go.RowKit Go.ChangeShapes Go.WideShapes Go.Joins
def zL (l:List Nat):List Int:=l.map Int.ofNat
theorem zbR (l:List Nat):(zL l).length=l.length:=List.length_map _
theorem zr3 {l:List Nat} {j:Nat} (h:j<l.length):(zL l).getD j 0=(l.getD j 0:Nat):=by
 simp [zL,List.getD_eq_getElem?_getD,List.getElem?_eq_getElem h]
theorem zcM (x:Int) (w:World) :
  Calls Tryz.prog 139 #[.int .i64 x] w fun e w'=>e = .returned (.bool (decide (0<=x)))/\w=w':=by
 go_enter Tryz.func139,Tryz.ntmps139
 go_wp2
 go_ret
 exact ⟨rfl,rfl⟩
def whTo (l:List Int) (k:Nat):List Nat:=(List.range k).filter (fun i=>decide (0<=l.getD i 0))
theorem zoo {l:List Int} {k:Nat} (h:0<=l.getD k 0):zL (whTo l (k+1))=zL (whTo l k)++[(k:Int)]:=by
 have hf:List.filter (fun i=>decide (0<=l.getD i 0)) [k]=[k]:=List.filter_cons_of_pos (p:=fun i=>decide (0<=l.getD i 0)) (decide_eq_true h)
 rw [whTo,List.range_succ,List.filter_append,hf,zL,List.map_append]
 rfl
theorem zqC {l:List Int} {k:Nat} (h:¬0<=l.getD k 0):whTo l (k+1)=whTo l k:=by
 have hf:List.filter (fun i=>decide (0<=l.getD i 0)) [k]=[]:=List.filter_cons_of_neg (p:=fun i=>decide (0<=l.getD i 0)) (by rw [ZU h];decide)
 rw [whTo,List.range_succ,List.filter_append,hf,ZF]
 rfl
theorem zon (l:List Int) (k:Nat):(whTo l k).length<=k:=by
 have:=List.length_filter_le (fun i=>decide (0<=l.getD i 0)) (List.range k)
 rw [List.length_range] at this
 exact this
theorem OwnI.extH {w w':World} {B:Nat} {e:TypeId} {v:Value} {k:Nat} {L:List Int} (h:OwnI w B e v k L) (hb:Ext w w'):OwnI w' B e v k L :=
 World.ownsRow.kept h (But.of_ext hb none) (by cases v.ownBlock <;> simp)
theorem zrl {w:World} {B:Nat} {e:TypeId} {v:Value} {L L':List Nat} {k:Nat} (h:OwnI w B e v (L.length+1) (zL L++[(k:Int)])) (he:zL L'=zL L++[(k:Int)]):OwnI w B e v L'.length (zL L'):=by
 have hl:L'.length=L.length+1:=by rw [<-zbR L',he,Zc,zbR];rfl
 rw [hl,he]
 exact h
theorem zgx (n c:Nat) (A:Option Addr) (l:List Int) (hn:n<=1000) (w:World) (hl:Ints w A n l) :
  Calls Tryz.prog 137 #[.slice A n c,.func (.func 139) #[] #[]] w fun e w'=>∃v,e = .returned v/\OwnI w' w.heap.size 3 v (whP l).length (zL (whP l))/\Ext w w':=by
 have HX:=Za hl
 have ac:=hl.1
 have HP:=Za (show whP l=whTo l n by rw [whP,ac];rfl)
 have eg:∀args w,(callFunc 139 args).run Tryz.prog w = .ok (.enter 139 args) w:=enters_of Tryz.func139 (by kernel_rfl) rfl
 clear hl ac
 go_enter Tryz.func137,Tryz.ntmps137
 go_wp2_with fail
 go_loopw [5,10] (fun u i wr=>∃(V:Value) (k:Nat),V=u/\i = .int .i64 k/\k<=n/\Hid (OwnI wr w.heap.size 3 V (whTo l k).length (zL (whTo l k)))/\Hid (Ext w wr)) (fun _ i _=>n-(intOf i).toNat)
 case atStart=>exact ⟨_,0,rfl,rfl,ZK _,Za (OwnI.nil _ _ _),Za zx⟩
 case round =>
  obtain ⟨V,k,rfl,rfl,hk,HO,HE⟩:=hrel
  obtain ⟨A1,c1,rfl, -⟩:=zaB HO.out
  by_cases hlt:k<n
  ·obtain ⟨b,off,rfl,hb,hc⟩:=(Ints.ext HX.out HE.out).2 (by omega)
   have c0:=hc k hlt
   have q0:(0:Int)<=(k:Int):=by omega
   have q1:(k:Int)<(n:Int):=by omega
   have HL:=Za (zon l k)
   clear hc
   by_cases hx:0<=l.getD k 0
   ·have HY:=Za (zoo hx)
    have hd:=decide_eq_true hx
    obtain ⟨x,hx0⟩:∃x,l.getD k 0=x:=⟨_,rfl⟩
    rw [hx0] at c0 hd
    clear hx0 hx
    have HW:=Za (fun w'=>zcM x w')
    rw [hd] at HW
    go_wp2_with (first
     | (go_at_call 139;((with_reducible refine (HW.out _).mono ?_);rintro e w3 ⟨rfl,rfl⟩))
     | (at_builtin;(refine zax (w:=w) 51 3 _ (k:Int) (by rfl) (by rfl) Tryz.underlying51 zaJ (by rfl) (by rfl) (by exact HO.out.extH zx) (HE.out.trans zx) (by simp [go_sem]) (by have:=HL.out;omega) ?_;intro v' w6 aa ab)))
    have ae:=Za (zrl aa HY.out)
    clear aa
    go_roundw
    case rel=>exact ⟨v',k+1,rfl,by go_num,by omega,ae,ab⟩
    case measure=>simp [intOf];omega
   ·have HY:=Za (zqC hx)
    have hd:=ZU hx
    obtain ⟨x,hx0⟩:∃x,l.getD k 0=x:=⟨_,rfl⟩
    rw [hx0] at c0 hd
    clear hx0 hx
    have HW:=Za (fun w'=>zcM x w')
    rw [hd] at HW
    go_wp2_with (go_at_call 139;((with_reducible refine (HW.out _).mono ?_);rintro e w3 ⟨rfl,rfl⟩))
    go_roundw
    case rel=>exact ⟨_,k+1,rfl,by go_num,by omega,Za (by rw [HY.out];exact HO.out.extH zx),Za (HE.out.trans zx)⟩
    case measure=>simp [intOf];omega
  ·obtain rfl:k=n:=by omega
   have ad:=Za (show OwnI wr w.heap.size 3 (.slice A1 (whTo l k).length c1) (whP l).length (zL (whP l)) by rw [HP.out];exact HO.out)
   go_wp2_with fail
   go_ret
   exact ⟨_,rfl,ad.out.extH zx,HE.out.trans zx⟩
end Go.Proofs.YtbjgpbojjhldaaaGreatDoor
/- satin: gcd and move. -/
namespace Go.Proofs.YtbjgpbojjhldaaaGreatDoor
set_option maxRecDepth 100000
open Go.RowKit
theorem zk0 (n m:Nat) (hn:n<=1000000) (hm:m<=1000000) (w:World) :
  Calls Tryz.prog 199 #[.int .i64 n,.int .i64 m] w fun e w'=>e = .returned (.int .i64 (Nat.gcd n m:Nat))/\Ext w w':=by
 obtain ⟨g,hg⟩:∃g,Nat.gcd n m=g:=⟨_,rfl⟩
 rw [hg]
 have HG:=Za hg
 clear hg
 go_enter Tryz.func199,Tryz.ntmps199
 go_wp2_with fail
 go_loopw [0,1] (fun a b wr=>∃(x y:Nat),a = .int .i64 x/\b = .int .i64 y/\x<=1000000/\y<=1000000/\Hid (Nat.gcd x y=g)/\Hid (Ext w wr)) (fun _ b _=>(intOf b).toNat)
 case atStart=>exact ⟨n,m,rfl,rfl,hn,hm,HG,Za zx⟩
 case round =>
  obtain ⟨x,y,rfl,rfl,hx,hy,aa,HE⟩:=hrel
  by_cases h0:y=0
  ·subst h0
   have HF:=Za (show x=g by have:=aa.out;rwa [Nat.gcd_zero_right] at this)
   go_wp2_with fail
   go_ret
   exact ⟨by rw [HF.out];rfl,HE.out.trans zx⟩
  ·have b0:((y:Int) != 0)=true:=by simpa using h0
   have b1:¬(y:Int)=0:=by omega
   have b2:((y:Int)==0)=false:=by simpa using h0
   have hlt:x % y<y:=Nat.mod_lt _ (by omega)
   have ab:Int.tmod (x:Int) (y:Int)=((x % y:Nat):Int):=by rw [Int.tmod_eq_emod_of_nonneg (by omega)];rfl
   go_wp2_with fail
   go_quiet (fail)
   go_wp2
   go_roundw
   case rel=>exact ⟨y,x % y,rfl,by first | rfl | (rw [ab]) | go_num,hy,by omega,Za (zmw aa.out),Za (by have:=HE.out;repeat (first|exact zr _|assumption|refine za ?_ _|refine zd ?_|refine zn ?_ _|refine zt ?_ (by assumption)))⟩
   case measure=>simp [intOf];omega
theorem ziQ (n m:Int) (hn : -9999999<=n/\n<=9999999) (hm : -9999999<=m/\m<=9999999) (w:World) :
  Calls Tryz.prog 161 #[.int .i64 n,.int .i64 m] w fun e w'=>e = .returned (.bool (moveB n m))/\Ext w w':=by
 by_cases h1:5<=n
 ·by_cases h2:n<=64
  ·by_cases h3:1<m
   ·by_cases h4:m<n-1
    ·obtain ⟨a,rfl⟩:=Int.eq_ofNat_of_zero_le (show 0<=n by omega)
     obtain ⟨b,rfl⟩:=Int.eq_ofNat_of_zero_le (show 0<=m by omega)
     have HG:=Za (fun W=>zk0 a b (by omega) (by omega) W)
     obtain ⟨g,hg⟩:∃g,Nat.gcd a b=g:=⟨_,rfl⟩
     rw [hg] at HG
     have HB:=Za (show moveB (a:Int) (b:Int)=decide ((g:Int)=1) from by
      rw [Bool.eq_iff_iff]
      simp only [moveB,Zp,Zy,Int.toNat_natCast,hg]
      omega)
     clear hg
     go_enter Tryz.func161,Tryz.ntmps161
     go_wp2_with (go_at_call 199;((with_reducible refine (HG.out _).mono ?_);rintro e w1 ⟨rfl,hq1⟩))
     go_ret
     exact ⟨by rw [HB.out];by_cases e:(g:Int)=1 <;> simp [e],zx⟩
    ·have HB:=Za (show moveB n m=false by simp [moveB,h4])
     go_enter Tryz.func161,Tryz.ntmps161
     go_wp2
     go_ret
     exact ⟨by rw [HB.out];rfl,zx⟩
   ·have HB:=Za (show moveB n m=false by simp [moveB,h3])
    go_enter Tryz.func161,Tryz.ntmps161
    go_wp2
    go_ret
    exact ⟨by rw [HB.out];rfl,zx⟩
  ·have HB:=Za (show moveB n m=false by simp [moveB,h2])
   go_enter Tryz.func161,Tryz.ntmps161
   go_wp2
   go_ret
   exact ⟨by rw [HB.out];rfl,zx⟩
 ·have HB:=Za (show moveB n m=false by simp [moveB,h1])
  go_enter Tryz.func161,Tryz.ntmps161
  go_wp2
  go_ret
  exact ⟨by rw [HB.out];rfl,zx⟩
end Go.Proofs.YtbjgpbojjhldaaaGreatDoor
/- slices.Repeat of one bool. -/
namespace Go.Proofs.YtbjgpbojjhldaaaGreatDoor
set_option maxRecDepth 100000
open Go.RowKit Go.ChangeShapes Go.WideShapes Go.Joins
theorem zlh {α:Type} {L:List α} {m:Nat} (h:m<=L.length):∃X Y,L=X++Y/\X.length=m:=⟨L.take m,L.drop m,(Z0 m L).symm,by simp;omega⟩
theorem zbt (x:Bool) (k:Nat):((List.replicate k x).flatMap shBool.cells).length=k*1:=by
 rw [show ((List.replicate k x).flatMap shBool.cells).length=(List.replicate k x).length*1 from zaU (S:=shBool) _,ZH]
theorem zfM:(Tryz.prog.info? 4).map (·.size)=some 1:=by kernel_rfl
theorem znw {w:World} {B N g k m:Nat} {e:TypeId} {Y:List Value} {x:Bool} (h:w.ownsRow B e 1 (.slice (some ⟨g,0,none⟩) N N) N ((List.replicate k x).flatMap shBool.cells++Y)) (hk:k<=N) (hm:m<=k) (j:Nat) (u:Value) (hu:((List.replicate m x).flatMap shBool.cells)[j]?=some u):w.cell? (Addr.add ⟨g,0,none⟩ j)=some u:=by
 have hj:j<m*1:=by
  have:=(ZB.1 hu).1
  rwa [zbt] at this
 have h1:=World.ownsRow.cellAt h j (by omega)
 obtain ⟨d,rfl⟩:∃d,k=m+d:=⟨k-m,by omega⟩
 rw [<-List.replicate_append_replicate,ZO,Zr,ZT (by rw [zbt];exact hj),hu] at h1
 rw [show Addr.add ⟨g,0,none⟩ j=⟨g,j,none⟩ by cases j <;> simp [Addr.add]]
 exact h1
theorem zkQ (x:Bool) (k m:Nat) (Y:List Value):(List.replicate k x).flatMap shBool.cells++(List.replicate m x).flatMap shBool.cells++Y=(List.replicate (k+m) x).flatMap shBool.cells++Y:=by
 rw [<-List.replicate_append_replicate,ZO]
theorem zgG {w1:World} {B N:Nat} {e:TypeId} {v:Value} {M:List Value} (hN:1<=N) (h:Hid (w1.ownsRow B e 1 v N M)):∃X Y:List Value,X.length=1/\Hid (w1.ownsRow B e 1 v N ([]++X++Y)):=by
 have hl:M.length=N*1:=h.out.1
 obtain ⟨X,Y,aa,hX⟩:=zlh (m:=1) (L:=M) (by omega)
 subst aa
 exact ⟨X,Y,hX,Za h.out⟩
theorem zgS (x:Bool) (N:Nat) (hN1:1<=N) (hN2:N<=200) (w:World) (b off c:Nat) (hv:Vec shBool w (some ⟨b,off,none⟩) 1 [x]) :
  Calls Tryz.prog 94 #[.slice (some ⟨b,off,none⟩) 1 c,.int .i64 (N:Int)] w fun e w'=>∃v,e = .returned v/\OwnV shBool w' w.heap.size 4 v N (List.replicate N x)/\Ext w w':=by
 have HV:=Za (show ∀j u,(shBool.cells x)[j]?=some u->w.cell? (Addr.add ⟨b,off,none⟩ j)=some u from fun j u hu=>hv.cells_at j u (by rw [show [x].flatMap shBool.cells=shBool.cells x from ZF _];exact hu))
 have HM:=Za (show ∀w',Calls Tryz.prog 131 #[.int .u64 1,.int .u64 (N:Int)] w' fun e w''=>e = .returned (.tuple #[.int .u64 0,.int .u64 (N:Int)])/\w''=w' from fun w'=>by
  have h:=Tryz.bits_Mul 1 N (by omega) (by omega) w'
  rw [show 1*N / 18446744073709551616=0 by omega,show 1*N % 18446744073709551616=N by omega] at h
  exact h)
 have q1:(1:Int)<=(N:Int):=by omega
 have q2:(N:Int)<=200:=by omega
 clear hv
 go_enter Tryz.func94,Tryz.ntmps94
 go_wp2_with (first
  | (go_at_call 131;((with_reducible refine (HM.out _).mono ?_);rintro e w1 ⟨rfl,h9⟩;have h8:=h9.symm;clear h9;subst h8))
  | (at_make;(refine zav 52 4 (.bool false) 1 1 N w.heap.size (by rfl) (by rfl) Tryz.underlying52 zaI (by rfl) (by omega) (by omega) (Zb _) ?_;intro w1 ag ab ad);obtain ⟨X,Y,hX,ah⟩:=zgG hN1 ag;clear ag)
  | (refine za6 4 1 (k:=0) (m:=1) (A:=[]) 52 52 (shBool.cells x) (by rfl) (by rfl) Tryz.underlying52 zfM (by rfl) (by rfl) ah.out rfl (show 1=min 1 N by omega) rfl hX (fun j u hu=>(by have h3:=HV.out j u hu;exact (Zl ab.out (Zn w _ h3)).trans h3)) (fun u hu=>shBool.one x u hu) ?_;intro w2 ai ae))
 have am:=Za (show w2.ownsRow w.heap.size 4 1 (.slice (some ⟨w.heap.size,0,none⟩) N N) N ((List.replicate 1 x).flatMap shBool.cells++Y) from by
  have h9:=ai.out
  rw [show []++shBool.cells x++Y=(List.replicate 1 x).flatMap shBool.cells++Y by simp [List.flatMap]] at h9
  exact h9)
 have ak:=Za (show Ext w w2 from But.below (But.trans (But.of_ext ab.out _) ae.out) (Zb _) (fun k e=>by cases e;exact Zb _))
 clear ai ae ah hX X
 go_loopw [8] (fun i wr=>∃(k:Nat) (Y:List Value),i = .int .i64 k/\1<=k/\k<=N/\Hid (wr.ownsRow w.heap.size 4 1 (.slice (some ⟨w.heap.size,0,none⟩) N N) N ((List.replicate k x).flatMap shBool.cells++Y))/\Hid (Ext w wr)) (fun i _=>N-(intOf i).toNat)
 case atStart=>exact ⟨1,Y,rfl,Zb _,hN1,am,ak⟩
 case round =>
  obtain ⟨k,Y1,rfl,hk1,av,HO,HE⟩:=hrel
  have q3:(1:Int)<=(k:Int):=by omega
  have q4:(k:Int)<=(N:Int):=by omega
  by_cases hlt:k<N
  ·have q5:(k:Int)<(N:Int):=by omega
   have q6:¬N=k:=by omega
   have aa:((List.replicate k x).flatMap shBool.cells++Y1).length=N*1:=HO.out.1
   rw [Zc,zbt] at aa
   obtain ⟨X,Y2,au,hX⟩:=zlh (m:=(min k (N-k))*1) (L:=Y1) (by omega)
   subst au
   have ac:=Za (show wr.ownsRow w.heap.size 4 1 (.slice (some ⟨w.heap.size,0,none⟩) N N) N ((List.replicate k x).flatMap shBool.cells++X++Y2) from by
    rw [Zr];exact HO.out)
   have HD:=Za (World.ownsRow.drew ac.out)
   have aq:=Za (show ∀j u,((List.replicate (min k (N-k)) x).flatMap shBool.cells)[j]?=some u->wr.drew.cell? (Addr.add ⟨w.heap.size,0,none⟩ j)=some u from fun j u hu=>znw (World.ownsRow.drew HO.out) av (Nat.min_le_left _ _) j u hu)
   have ap:=Za (show ∀v∈(List.replicate (min k (N-k)) x).flatMap shBool.cells,v.oneCell'=true from fun u hu=>by obtain ⟨y,_,hy⟩:=ZI.1 hu;exact shBool.one y u hy)
   have ar:=Za (show X.length=((List.replicate (min k (N-k)) x).flatMap shBool.cells).length by rw [hX,zbt])
   clear aa hX HV HM ab ad
   go_wp2
   go_region_with ((with_reducible refine zb9 ?_);(refine zbv (wx:=wr.drew) 3 4 1 52 52 _ Tryz.underlying52 zfM HD.out ((zbt x k).trans (Nat.mul_one k)) (show min k (N-k)=Nat.min k (N-k) from rfl) (zbt x _) ar.out aq.out ap.out ?_;intro w5 aj af))
   have al:=Za (show Ext w w5 from But.below (But.trans (But.of_ext (ZR HE.out) (some w.heap.size)) af.out) (Zb _) (fun k e=>by cases e;exact Zb _))
   have ao:=Za (show w5.ownsRow w.heap.size 4 1 (.slice (some ⟨w.heap.size,0,none⟩) N N) N ((List.replicate (k+min k (N-k)) x).flatMap shBool.cells++Y2) from by
    rw [<-zkQ]
    exact aj.out)
   clear aj af
   have hw:IntKind.i64.wrap ((k:Int)+((min k (N-k):Nat):Int))=((k+min k (N-k):Nat):Int):=by
    have e:=Zj ((k:Int)+((min k (N-k):Nat):Int)) ⟨by omega,by omega⟩
    rw [e]
    omega
   go_roundw
   case rel =>
    exact ⟨.int .i64 (IntKind.i64.wrap ((k:Int)+((min k (N-k):Nat):Int))),_,_,_,_,_,_,_,_,_,_,_,_,_,⟨k+min k (N-k),Y2,by rw [hw],by omega,by omega,ao,al⟩,rfl⟩
   case measure =>
    show N-(IntKind.i64.wrap ((k:Int)+((min k (N-k):Nat):Int))).toNat<N-((k:Nat):Int).toNat
    rw [hw]
    omega
  ·obtain rfl:k=N:=by omega
   have aa:((List.replicate k x).flatMap shBool.cells++Y1).length=k*1:=HO.out.1
   rw [Zc,zbt] at aa
   obtain rfl:Y1=[]:=Zz (by omega)
   have ac:=Za (show OwnV shBool wr w.heap.size 4 (.slice (some ⟨w.heap.size,0,none⟩) k k) k (List.replicate k x) from by
    have h9:=HO.out
    rw [ZF] at h9
    exact h9)
   go_wp2
   exact bodyPost_ret (v := .slice (some ⟨w.heap.size,0,none⟩) k k) (by simp [results,Tryz.f94,go_sem]) rfl ⟨_,rfl,ac.out,HE.out⟩
end Go.Proofs.YtbjgpbojjhldaaaGreatDoor
/- satin.row: the row of runs. -/
namespace Go.Proofs.YtbjgpbojjhldaaaGreatDoor
set_option maxRecDepth 100000
open Go.RowKit
def RowO (x:Option (List Bool)) (w:World) (e:Ending) (w':World):Prop:=Ext w w'/\match x with
 | none=>e = .returned (.slice none 0 0)
 | some r=>∃v,e = .returned v/\OwnV shBool w' w.heap.size 4 v r.length r
theorem zdF {x:Option (List Bool)} {w w':World} (h:x=none) (hb:Ext w w'):RowO x w (.returned (.slice none 0 0)) w':=by
 subst h
 exact ⟨hb,rfl⟩
theorem znA {x:Option (List Bool)} {r:List Bool} {w w':World} {v:Value} {k:Nat} (h:x=some r) (hb:Ext w w') (ho:OwnV shBool w' w.heap.size 4 v k r):RowO x w (.returned v) w':=by
 subst h
 obtain rfl:=ho.len
 exact ⟨hb,v,rfl,ho⟩
theorem zpQ (k:Nat):(((k:Int) % 2)==0)=decide (k % 2=0):=by
 have h:(k:Int) % 2=((k % 2:Nat):Int):=rfl
 rw [h]
 by_cases e:k % 2=0
 ·rw [e];rfl
 ·have e2:k % 2=1:=by omega
  rw [e2];rfl
theorem zpR (k:Nat):(((k:Int) % 2)==1)=decide (k % 2=1):=by
 have h:(k:Int) % 2=((k % 2:Nat):Int):=rfl
 rw [h]
 by_cases e:k % 2=1
 ·rw [e];rfl
 ·have e2:k % 2=0:=by omega
  rw [e2];rfl
theorem zqd {l:List Int} (h1:2<=l.length) (h2:l.length<=64) (h3:l.length % 2=0):rowR l=rowGo l 0 []:=by
 rw [rowR,if_neg (by omega)]
theorem znz {l:List Int} {k:Nat} (hk:k<l.length) (out:List Bool):rowGo (l.drop k) k out=if l.getD k 0<1∨64-(out.length:Int)<l.getD k 0 then none else rowGo (l.drop (k+1)) (k+1) (out++List.replicate (l.getD k 0).toNat (decide (k % 2=0))):=by
 rw [ZL hk,rowGo,Zd,Zf hk]
 rfl
theorem zk1 (n c:Nat) (A:Option Addr) (l:List Int) (hn:n<=1000000) (w:World) (hl:Ints w A n l) :
  Calls Tryz.prog 57 #[.slice A n c] w (RowO (rowR l) w):=by
 have HX:=Za hl
 have aa:=hl.1
 have HL:=Za aa
 have p1:=zpR n
 clear hl
 by_cases h2:n<2
 ·have HN:=Za (show rowR l=none by rw [rowR,if_pos (.inl (by omega))])
  have q1:(n:Int)<2:=by omega
  clear aa p1
  go_enter Tryz.func57,Tryz.ntmps57
  go_wp2
  go_ret
  exact zdF HN.out zx
 have q1:¬(n:Int)<2:=by omega
 by_cases h3:64<n
 ·have HN:=Za (show rowR l=none by rw [rowR,if_pos (.inr (.inl (by omega)))])
  have q2:(64:Int)<(n:Int):=by omega
  clear aa p1
  go_enter Tryz.func57,Tryz.ntmps57
  go_wp2
  go_ret
  exact zdF HN.out zx
 have q2:¬(64:Int)<(n:Int):=by omega
 by_cases h4:n % 2=1
 ·have HN:=Za (show rowR l=none by rw [rowR,if_pos (.inr (.inr (by omega)))])
  have p2:((n:Int) % 2==1)=true:=by rw [p1];simpa using h4
  clear aa p1 h4
  go_enter Tryz.func57,Tryz.ntmps57
  go_wp2
  go_ret
  exact zdF HN.out zx
 have p2:((n:Int) % 2==1)=false:=by rw [p1];simpa using h4
 have HR:=Za (zqd (l:=l) (by omega) (by omega) (by omega))
 clear aa p1 h4
 go_enter Tryz.func57,Tryz.ntmps57
 go_wp2_with fail
 go_loopw [3,22] (fun u i wr=>∃(V:Value) (k:Nat) (o:List Bool),V=u/\i = .int .i64 k/\k<=n/\o.length<=64/\Hid (OwnV shBool wr w.heap.size 4 V o.length o)/\Hid (Ext w wr)/\Hid (rowR l=rowGo (l.drop k) k o)) (fun _ i _=>n-(intOf i).toNat)
 case atStart=>exact ⟨_,0,[],rfl,rfl,ZK _,by simp,Za (OwnV.nil _ _ _ _),Za zx,Za (by rw [HR.out,List.drop_zero])⟩
 case round =>
  obtain ⟨V,k,o,rfl,rfl,hk,ho,HV,HE,HG⟩:=hrel
  obtain ⟨A1,c1,rfl, -⟩:=zao HV.out
  by_cases hlt:k<n
  ·obtain ⟨b,off,rfl,hb,hc⟩:=(Ints.ext HX.out HE.out).2 (by omega)
   have c0:=hc k hlt
   have HS:=Za (HG.out.trans (znz (l:=l) (k:=k) (by rw [HL.out];exact hlt) o))
   obtain ⟨x,hx⟩:∃x,l.getD k 0=x:=⟨_,rfl⟩
   rw [hx] at c0 HS
   have q3:(0:Int)<=(k:Int):=by omega
   have q4:(k:Int)<(n:Int):=by omega
   obtain ⟨L,hL⟩:∃L,o.length=L:=⟨_,rfl⟩
   rw [hL] at ho HV HS ⊢
   have i1:=Zj (64-(L:Int)) (by omega)
   have ad:=zpQ k
   clear hc hx
   by_cases h5:x<1
   ·have HN:=Za (HS.out.trans (if_pos (.inl h5)))
    clear ad hL
    go_wp2
    go_ret
    exact zdF HN.out (HE.out.trans zx)
   ·by_cases h6:64-(L:Int)<x
    ·have HN:=Za (HS.out.trans (if_pos (.inr h6)))
     clear ad hL
     go_wp2
     go_ret
     exact zdF HN.out (HE.out.trans zx)
    ·have HN:=Za (HS.out.trans (if_neg (by omega)))
     obtain ⟨m,rfl⟩:∃m:Nat,x=(m:Int):=⟨x.toNat,by omega⟩
     have HM:=Za (show (m:Int).toNat=m by simp)
     have HK:=Za hL
     clear hL
     go_wp2_with (first
      | (go_at_call 94;((refine (zgS (decide (k % 2=0)) m (by omega) (by omega) _ _ _ _ (Vec.lit2 (by simp) (by simp [shBool]) rfl)).mono ?_);rintro e w4 ⟨v4,rfl,aj,ai⟩;obtain ⟨A4,c4,rfl,ae, -⟩:=zan aj;have ah:=Za ai;have al:=Za ae;clear ai aj ae))
      | (at_builtin;(refine zaa (S:=shBool) (w:=w) (m:=m) (xs:=List.replicate m (decide (k % 2=0))) 52 4 (.bool false) 1 (by rfl) (by rfl) Tryz.underlying52 zaI (by rfl) (by omega) (by rfl) (by rfl) (OwnV.ext HV.out (Zm zx ah.out)) (HE.out.trans (Zm zx ah.out)) al.out (by omega) ?_;intro v' w6 ab ac af)))
     rw [HM.out] at HN
     have ag:=Za (show (o++List.replicate m (decide (k % 2=0))).length=L+m by rw [Zc,ZH,HK.out])
     have ak:=Za (show OwnV shBool w6 w.heap.size 4 v' (o++List.replicate m (decide (k % 2=0))).length (o++List.replicate m (decide (k % 2=0))) by rw [ag.out];exact ab)
     clear ab af
     refine ⟨⟨v',k+1,o++List.replicate m (decide (k % 2=0)),rfl,by go_num,by omega,by rw [ag.out];omega,ak,ac,HN⟩,?_⟩
     simp [intOf]
     omega
  ·obtain rfl:k=n:=by omega
   have HN:=Za (show rowR l=some o by rw [HG.out,ZE (by rw [HL.out];exact Zb _)];rfl)
   go_wp2
   go_ret
   exact znA HN.out (HE.out.trans zx) (HV.out.ext zx)
end Go.Proofs.YtbjgpbojjhldaaaGreatDoor
/- hang.reached. -/
namespace Go.Proofs.YtbjgpbojjhldaaaGreatDoor
set_option maxRecDepth 100000
open Go.RowKit Go.ChangeShapes Go.WideShapes Go.Joins
def Adj (w:World) (A:Option Addr) (n:Nat) (nx:Nat->List Nat):Prop:=∃b off,A=some ⟨b,off,none⟩/\b<w.heap.size/\∀j,j<n->∃Aj cj,w.cell? ⟨b,off+j,none⟩=some (.slice Aj (nx j).length cj)/\Ints w Aj (nx j).length (zL (nx j))
theorem Adj.ext {w w':World} {A:Option Addr} {n:Nat} {nx:Nat->List Nat} (h:Adj w A n nx) (hb:Ext w w'):Adj w' A n nx:=by
 obtain ⟨b,off,e,hlt,hc⟩:=h
 refine ⟨b,off,e,Zi hlt (Zt hb),fun j hj=>?_⟩
 obtain ⟨Aj,cj,h1,h2⟩:=hc j hj
 exact ⟨Aj,cj,(Zl (p:=⟨b,off+j,none⟩) hb hlt).trans h1,h2.ext hb⟩
def FarW (w:World) (g n:Nat) (far:List Int):Prop:=RowV w g n (fun j => .int .i64 (far.getD j 0))
theorem FarW.ints {w:World} {g n:Nat} {far:List Int} (h:FarW w g n far) (hl:far.length=n):Ints w (some ⟨g,0,none⟩) n far:=by
 have h1:=Ints.of_row h
 have e:(List.range n).map (fun j=>far.getD j 0)=far:=by
  apply List.ext_getElem?
  intro j
  by_cases hj:j<n
  ·rw [List.getElem?_map,List.getElem?_range hj]
   simp only [Option.map_some,Zd]
   rw [Zf (by omega)]
   rfl
  ·rw [List.getElem?_eq_none (by simp;omega),List.getElem?_eq_none (by omega)]
 rw [e] at h1
 exact h1
theorem FarW.put {w:World} {g n:Nat} {far:List Int} (h:FarW w g n far) {b:Nat} (hb:b<n) (hl:far.length=n) (x:Int):FarW (w.setCell ⟨g,b,none⟩ (.int .i64 x)) g n (far.set b x) :=
 (RowV.set h hb (.int .i64 x)).congr fun j _=>by
  rw [zei (by omega)]
  split <;> rfl
theorem FarW.start {w:World} {B g n c:Nat} {e:TypeId} (h:OwnV shI w B e (.slice (some ⟨g,0,none⟩) n c) n (List.replicate n (-1))):FarW w g n (List.replicate n (-1)):=by
 have h1:=RowV.of_own h
 rw [show n*shI.size=n from Nat.mul_one n] at h1
 refine h1.congr fun j hj=>?_
 have e1:(List.replicate n (-1:Int)).flatMap shI.cells=List.replicate n (.int .i64 (-1)):=by
  clear h h1 hj
  induction n with
  | zero=>rfl
  | succ n ih=>rw [List.replicate_succ,List.flatMap_cons,ih,List.replicate_succ];rfl
 rw [e1]
 simp [List.getD_eq_getElem?_getD,hj]
theorem Que.pop {w:World} {B F:Nat} {e:TypeId} {A:Option Addr} {c:Nat} {x:Int} {L:List Int} (h:Que w B F e (.slice A (L.length+1) c) (x::L)) :
  ∃b off,A=some ⟨b,off,none⟩/\w.cell? ⟨b,off,none⟩=some (.int .i64 x)/\L.length+1<=c/\∀A',A'=(if L.length=0 then some ⟨b,off,none⟩ else some ⟨b,off+1,none⟩)->Que w B F e (.slice A' L.length L.length) L:=by
 obtain ⟨A0,c0,e0,hi,hd⟩:=h
 simp only [Zk,Value.slice.injEq,true_and] at e0
 obtain ⟨rfl,rfl⟩:=e0
 obtain ⟨b,off,rfl,hlt,hc⟩:=hi.2 (by simp)
 have aa:b≠F:=by
  rcases hd with ⟨⟨b',off',e1,h1⟩,_⟩ | ⟨_,h1⟩
  ·cases e1
   exact h1
  ·exact fun e2=>h1 (by rw [e2];rfl)
 have ab:L.length+1<=c:=by
  rcases hd with ⟨_,h1⟩ | ⟨h1,_⟩
  ·rw [h1];simp
  ·rcases h1.2 with ⟨h2,_⟩ | ⟨g,cap,cur,h2,_,_,h3,_⟩
   ·cases h2
   ·simp only [Zk,Value.slice.injEq,true_and] at h2
    obtain ⟨_,rfl⟩:=h2
    simpa using h3
 have h0:=hc 0 (by simp)
 rw [Nat.add_zero] at h0
 refine ⟨b,off,rfl,h0,ab,fun A' hA=>?_⟩
 by_cases hl:L.length=0
 ·rw [if_pos hl] at hA
  subst hA
  refine ⟨_,L.length,rfl,⟨rfl,fun h9=>by omega⟩,.inl ⟨⟨b,off,rfl,aa⟩,rfl⟩⟩
 ·rw [if_neg hl] at hA
  subst hA
  refine ⟨_,L.length,rfl,⟨rfl,fun _=>⟨b,off+1,rfl,hlt,fun j hj=>?_⟩⟩,.inl ⟨⟨b,off+1,rfl,aa⟩,rfl⟩⟩
  have h9:=hc (j+1) (by simp;omega)
  rw [show off+(j+1)=off+1+j by omega] at h9
  exact h9
theorem zp2 {w:World} {B F g:Nat} {e:TypeId} {x:Int} (hg:g<w.heap.size) (hF:g≠F) (hc:w.cell? ⟨g,0,none⟩=some (.int .i64 x)):Que w B F e (.slice (some ⟨g,0,none⟩) 1 1) [x] :=
 ⟨_,1,rfl,⟨rfl,fun _=>⟨g,0,rfl,hg,fun j hj=>by
  obtain rfl:j=0:=by simp at hj;omega
  exact hc⟩⟩,.inl ⟨⟨g,0,rfl,hF⟩,rfl⟩⟩
def bfM (n F:Nat) (u:Value) (wr:World):Nat:=n+(match u with | .slice _ k _=>k | _=>0)-(List.range n).countP (fun j=>decide (0<=intOf ((wr.cell? ⟨F,j,none⟩).getD (.int .i64 (-1)))))
theorem zos {n F p c:Nat} {wr:World} {far:List Int} {A:Option Addr} {q:List Nat} (hf:FarW wr F n far) (hI:BfI n p far q):bfM n F (.slice A q.length c) wr=n-p:=by
 have e:(List.range n).countP (fun j=>decide (0<=intOf ((wr.cell? ⟨F,j,none⟩).getD (.int .i64 (-1)))))=far.countP (fun x=>decide (0<=x)):=by
  have h1:far=(List.range n).map (fun j=>far.getD j 0):=by
   apply List.ext_getElem?
   intro j
   by_cases hj:j<n
   ·rw [List.getElem?_map,List.getElem?_range hj]
    simp only [Option.map_some,Zd]
    rw [Zf (by rw [hI.len];exact hj)]
    rfl
   ·rw [List.getElem?_eq_none (by rw [hI.len];omega),List.getElem?_eq_none (by simp;omega)]
  rw [h1,List.countP_map]
  apply List.countP_congr
  intro j hj
  have hj:=ZG.1 hj
  rw [hf.at_ hj]
  rfl
 unfold bfM
 rw [e,hI.cnt]
 simp only
 omega
theorem zeG (n cn k0:Nat) (A:Option Addr) (nx:Nat->List Nat) (hn:n<=200) (hk:k0<n) (hnx:∀a,a<n->∀b∈nx a,b<n) (hln:∀a,(nx a).length<=1000) (w:World) (hA:Adj w A n nx) :
  Calls Tryz.prog 138 #[.slice A n cn,.int .i64 (k0:Int)] w fun e w'=>∃g c,e = .returned (.slice (some ⟨g,0,none⟩) n c)/\Ints w' (some ⟨g,0,none⟩) n (farV nx n k0)/\Ext w w':=by
 obtain ⟨bA,oA,rfl,ah,aD⟩:=hA
 have HA:=Za aD
 have aN:=Za ah
 have aV:=Za hnx
 have aU:=Za hln
 have HV:=Za (show farV nx n k0=bfsGo nx n ((List.replicate n (-1)).set k0 0) [k0] from rfl)
 obtain ⟨R,hR⟩:∃R,farV nx n k0=R:=⟨_,rfl⟩
 rw [hR] at HV ⊢
 have HRL:=Za (show R.length=n by rw [<-hR];exact zjB _ _ _)
 clear aD ah hnx hln hR
 have q0:(0:Int)<=(k0:Int):=by omega
 have q1:(k0:Int)<(n:Int):=by omega
 go_enter Tryz.func138,Tryz.ntmps138
 go_wp2_with (first
  | (go_at_call 176;((refine (zgT (-1) n (by omega) (by omega) _ _ _ _ (Vec.lit2 (by simp) (by simp [shI]) rfl)).mono ?_);rintro e w4 ⟨v4,rfl,ag,aK⟩;obtain ⟨F,cF,rfl,aF,hFlt⟩:=World.ownsRow.form ag (by omega);have aZ:=Za (FarW.start ag);have HF:=Za aF;have ar:=Za (show Ext w w4 from Zm zx aK);have ay:=Za (FarW.put (FarW.start ag) hk (by simp) 0);have a4:=RowV.at_ (FarW.start ag) hk;have a6:=RowV.free (FarW.start ag) hk;clear ag aK)))
 have aw:=Za (show w.heap.size<=F by have h9:=HF.out;rw [ZP] at h9;omega)
 have az:=Za (RowV.ext ay.out ((Ze (w4.setCell ⟨F,k0,none⟩ (.int .i64 0))).alloc (.cells #[.int .i64 (k0:Int)] 3)))
 have aB:=Za (show Que ((w4.setCell ⟨F,k0,none⟩ (.int .i64 0)).alloc (.cells #[.int .i64 (k0:Int)] 3)) w.heap.size F 3 (.slice (some ⟨w4.heap.size,0,none⟩) 1 1) (zL [k0]) from zp2 (by simp) (by omega) (by simp [go_sem]))
 have au:=Za (show Ext w ((w4.setCell ⟨F,k0,none⟩ (.int .i64 0)).alloc (.cells #[.int .i64 (k0:Int)] 3)) from ZD (Ext.set ar.out aw.out _) _)
 obtain ⟨W5,aG⟩:∃W5,(w4.setCell ⟨F,k0,none⟩ (.int .i64 0)).alloc (.cells #[.int .i64 (k0:Int)] 3)=W5:=⟨_,rfl⟩
 rw [aG] at az aB au ⊢
 clear aG ay aZ ar a4 a6 aF HF
 have HI5:=Za (BfI.start hk)
 go_loopw [6] (fun u wr=>∃(V:Value) (p:Nat) (far:List Int) (q:List Nat),V=u/\p<=n/\Hid (FarW wr F n far)/\Hid (Que wr w.heap.size F 3 V (zL q))/\Hid (BfI n p far q)/\Hid (R=bfsGo nx (n-p) far q)/\Hid (Ext w wr)) (fun u wr=>bfM n F u wr)
 case atStart=>exact ⟨_,0,_,[k0],rfl,by omega,az,aB,HI5,HV,au⟩
 case round =>
  obtain ⟨V,p,far,q,rfl,hp,al,HQ,HI,HG,HE⟩:=hrel
  rcases q with _ | ⟨a,q⟩
  ·have HR:=Za (HG.out.trans zlV)
   obtain ⟨A1,c1,rfl, -⟩:=HQ.out
   go_wp2_with fail
   go_ret
   exact ⟨F,cF,rfl,by rw [HR.out];exact FarW.ints al.out HI.out.len,HE.out⟩
  ·obtain ⟨A1,c1,hV, -⟩:=id HQ.out
   have hln:(zL (a::q)).length=q.length+1:=zbR _
   rw [hln] at hV
   subst hV
   obtain ⟨L,hL⟩:∃L,q.length=L:=⟨_,rfl⟩
   obtain ⟨bq,oq,rfl,a8,aL,aq⟩:=Que.pop (L:=zL q) (x:=(a:Int)) (by rw [zbR];exact HQ.out)
   rw [zbR] at aL aq
   have ab:=Za aq
   have HR:=Za HI.out.pop
   have hpn:=HI.out.lt (by simp)
   have am:=HR.out.an
   obtain ⟨Aj,cj,aC,aE⟩:=HA.out a am
   have a0:=(Zl (p:=⟨bA,oA+a,none⟩) HE.out aN.out).trans aC
   have aM:=Za aE
   have HM:=Za (show bfM n F (.slice (some ⟨bq,oq,none⟩) (L+1) c1) wr=n-p by rw [<-hL];exact zos (A:=some ⟨bq,oq,none⟩) (c:=c1) al.out HI.out)
   rw [hL] at ab aL
   have q2:(0:Int)<=(a:Int):=by omega
   have q3:(a:Int)<(n:Int):=by omega
   have q4:(1:Int)<=(L:Int)+1:=by omega
   have HN:=Za (show R=bfsGo nx (n-(p+1)) (bfsIn (far.getD a 0) (nx a) far q).1 (bfsIn (far.getD a 0) (nx a) far q).2 by
    have h9:=HG.out
    rw [show n-p=n-(p+1)+1 by omega] at h9
    exact h9)
   have HLQ:=Za hL
   obtain ⟨d,hd⟩:∃d,far.getD a 0=d:=⟨_,rfl⟩
   rw [hd] at HR HN
   have HB:=Za (aV.out a am)
   have aR:=Za (aU.out a)
   rw [hL]
   clear aq aE aC hln hL hd
   go_wp2_with fail
   all_goals
    first
     | ((have hz:L=0:=by omega);subst hz;have aA:=Za (show Que wr w.heap.size F 3 (.slice (some ⟨bq,oq,none⟩) 0 0) (zL q) from ab.out _ rfl))
     | (have aA:=Za (show Que wr w.heap.size F 3 (.slice (some ⟨bq,oq+1,none⟩) L L) (zL q) from ab.out _ (by rw [if_neg (by omega)])))
    clear ab a8 a0
    obtain ⟨w0,rfl⟩:∃w0:World,w0=wr:=⟨_,rfl⟩
    go_loopw [6,36] (fun u kk wr=>∃(V:Value) (j:Nat) (far2:List Int) (q2:List Nat),V=u/\kk = .int .i64 j/\j<=(nx a).length/\Hid (FarW wr F n far2)/\Hid (Que wr w.heap.size F 3 V (zL q2))/\Hid (BfR n p a d far2 q2)/\Hid (R=bfsGo nx (n-(p+1)) (bfsIn d ((nx a).drop j) far2 q2).1 (bfsIn d ((nx a).drop j) far2 q2).2)/\Hid (Ext w wr)) (fun _ kk _=>(nx a).length-(intOf kk).toNat)
    case atStart=>exact ⟨_,0,far,q,rfl,rfl,ZK _,al,aA,HR,HN,HE⟩
    case round =>
     obtain ⟨V,j,far2,q2,rfl,rfl,hj,aa,aj,ac,ax,ai⟩:=hrel
     obtain ⟨Aq,cq,rfl, -⟩:=id aj.out
     by_cases hjl:j<(nx a).length
     ·obtain ⟨bj,oj,a7,hjb,aJ⟩:=(Ints.ext aM.out ai.out).2 (by omega)
      have ao:=aJ j hjl
      rw [zr3 hjl] at ao
      subst a7
      have ae:(nx a)[j]∈nx a:=List.getElem_mem hjl
      have ap:(nx a).drop j=(nx a)[j]::(nx a).drop (j+1):=ZL hjl
      have aI:(nx a).getD j 0=(nx a)[j]:=by rw [Zd,Zf hjl];rfl
      rw [aI] at ao
      obtain ⟨b,hb⟩:∃b,(nx a)[j]=b:=⟨_,rfl⟩
      rw [hb] at ao ae ap
      have ak:=HB.out b ae
      have q5:(0:Int)<=(b:Int):=by omega
      have q6:(b:Int)<(n:Int):=by omega
      have q7:(j:Int)<((nx a).length:Int):=by omega
      have q8:(0:Int)<=(j:Int):=by omega
      have aH:=aa.out.at_ ak
      have hfz:=aa.out.free ak
      have a5:=aa.out.at_ am
      rw [ac.out.at_] at a5
      have hFl:=aa.out.lt
      have hdb:=ac.out.dp
      have ad:=ax.out
      rw [ap] at ad
      have aT:=Za (ac.out.st.qlen)
      have hla:=aR.out
      have aS:=Za ac.out.st.len
      clear aJ ap aI hb ae
      by_cases hneg:far2.getD b 0<0
      ·rw [zlY hneg] at ad
       have af:=Za ad
       have aY:=Za (ac.out.push ak hneg)
       have aQ:=Za (FarW.put aa.out ak aS.out (d+1))
       have aX:=Za (aj.out.set b (.int .i64 (d+1)))
       have av:=Za (Ext.set ai.out (p:=⟨F,b,none⟩) aw.out (.int .i64 (d+1)))
       have i1:=Zj (d+1) (by omega)
       obtain ⟨y,hy⟩:∃y,far2.getD b 0=y:=⟨_,rfl⟩
       rw [hy] at aH hneg
       clear ad hy
       go_wp2_with (at_builtin;(refine zcJ 51 3 (L:=zL q2) (B:=w.heap.size) (F:=F) (b:Int) (by rfl) (by rfl) Tryz.underlying51 zaJ (by rfl) (by rfl) (aX.out.ext zx) (by have h9:=Zt av.out;simp only [ZP] at h9 ⊢;omega) (by simp;omega) (by simp [go_sem]) (by rw [zbR];have:=aT.out;omega) ?_;intro v6 w6 hq6 hn6 a3))
       obtain ⟨E,hE,a2,a1⟩:=a3.out
       have aP:=Za (RowV.but (RowV.ext aQ.out ((Ze _).alloc _)) hE (fun e=>a2 e.symm))
       have aO:=Za (But.below ((But.of_ext (ZD av.out (.cells #[.int .i64 (b:Int)] 3)) E).trans hE) (Zb _) a1)
       have aW:=Za (show Que w6 w.heap.size F 3 v6 (zL (q2++[b])) from by rw [zL,List.map_append];exact hq6.out)
       go_roundw
       case rel=>exact ⟨v6,j+1,_,q2++[b],rfl,by go_num,by omega,aP,aW,aY,af,aO⟩
       case measure=>simp [intOf];omega
      ·rw [zlX hneg] at ad
       have af:=Za ad
       obtain ⟨y,hy⟩:∃y,far2.getD b 0=y:=⟨_,rfl⟩
       rw [hy] at aH hneg
       clear ad hy
       go_wp2_with fail
       go_roundw
       case rel=>exact ⟨_,j+1,far2,q2,rfl,by go_num,by omega,aa,aj,ac,af,ai⟩
       case measure=>simp [intOf];omega
     ·obtain rfl:j=(nx a).length:=by omega
      have af:=Za ax.out
      rw [List.drop_length] at af
      go_wp2_with fail
      refine ⟨⟨_,p+1,far2,q2,rfl,by omega,aa,aj,Za ac.out.st,af,ai⟩,?_⟩
      have hz:=zbR q2
      rw [hz,zos aa.out ac.out.st]
      have h9:=HM.out
      first
       | (rw [h9];omega)
       | (simp only [Nat.zero_add] at h9;rw [h9];omega)
end Go.Proofs.YtbjgpbojjhldaaaGreatDoor
/- Cells that hold slices of the call's own,each with memory of its own. -/
namespace Go.Proofs.YtbjgpbojjhldaaaGreatDoor
set_option maxRecDepth 100000
open Go.RowKit
structure Fam (w:World) (base:Nat) (e:TypeId) (J:Nat->Prop) (a:Nat->Addr) (v:Nat->Value) (xs:Nat->List Int):Prop where
 cell:∀j,J j->w.cell? (a j)=some (v j)/\w.frozen? (a j)=false
 row:∀j,J j->OwnI w base e (v j) (xs j).length (xs j)
 one:∀i j,J i->J j->i≠j->a i≠a j
 off:∀i j,J i->J j->(v j).ownBlock≠some (a i).block
 two:∀i j b,J i->J j->i≠j->(v i).ownBlock=some b->(v j).ownBlock≠some b
section
variable {w w':World} {base:Nat} {e:TypeId} {J:Nat->Prop} {a:Nat->Addr} {v:Nat->Value} {xs:Nat->List Int}
theorem Fam.lt (h:Fam w base e J a v xs) {j:Nat} (hj:J j):(a j).block<w.heap.size:=Zn w _ (h.cell j hj).1
theorem Fam.mono {K:Nat->Prop} (h:Fam w base e J a v xs) (hk:∀j,K j->J j):Fam w base e K a v xs :=
 ⟨fun j hj=>h.cell j (hk j hj),fun j hj=>h.row j (hk j hj),fun i j hi hj=>h.one i j (hk i hi) (hk j hj),fun i j hi hj=>h.off i j (hk i hi) (hk j hj),fun i j b hi hj=>h.two i j b (hk i hi) (hk j hj)⟩
theorem Fam.but {E:Option Nat} (h:Fam w base e J a v xs) (hb:But E w w') (hne:∀j,J j->some (a j).block≠E/\((v j).ownBlock=none∨(v j).ownBlock≠E)):Fam w' base e J a v xs :=
 ⟨fun j hj=>⟨(hb.cell (h.lt hj) (hne j hj).1).trans (h.cell j hj).1,(World.frozen?_of_block (hb.block _ (h.lt hj) (hne j hj).1)).trans (h.cell j hj).2⟩,
  fun j hj=>World.ownsRow.kept (h.row j hj) hb (hne j hj).2,h.one,h.off,h.two⟩
theorem Fam.ext (h:Fam w base e J a v xs) (hb:Ext w w'):Fam w' base e J a v xs :=
 h.but (But.of_ext hb none) (fun j _=>⟨by simp,by cases (v j).ownBlock <;> simp⟩)
theorem Fam.put (h:Fam w base e J a v xs) {j:Nat} (hj:J j) {u:Value} {ys:List Int} (hg:w.grownBy w' (v j).ownBlock) (ho:OwnI w' base e u ys.length ys) (hu:u.ownBlock=(v j).ownBlock∨u.ownBlock=some w.heap.size) :
  Fam (w'.setCell (a j) u) base e J a (fun i=>if i=j then u else v i) (fun i=>if i=j then ys else xs i):=by
 have hb:But (v j).ownBlock w w':=hg
 have hlt:∀i,J i->(a i).block<w.heap.size:=fun i hi=>h.lt hi
 have aa:∀i,J i->w'.cell? (a i)=some (v i)/\w'.frozen? (a i)=false:=fun i hi=>by
  have hne:some (a i).block≠(v j).ownBlock:=fun e=>h.off i j hi hj e.symm
  exact ⟨(hb.cell (hlt i hi) hne).trans (h.cell i hi).1,(World.frozen?_of_block (hb.block _ (hlt i hi) hne)).trans (h.cell i hi).2⟩
 have ae:∀i,J i->i≠j->OwnI w' base e (v i) (xs i).length (xs i):=fun i hi hij =>
  World.ownsRow.kept (h.row i hi) hg (by
   cases hv:(v i).ownBlock with
   | none=>exact .inl rfl
   | some b=>exact .inr (fun e=>h.two i j b hi hj hij hv e.symm))
 have af:∀i,J i->u.ownBlock≠some (a i).block:=fun i hi e=>by
  rcases hu with h1 | h1
  ·exact h.off i j hi hj (h1.symm.trans e)
  ·rw [h1] at e
   have:=hlt i hi
   simp only [Option.some.injEq] at e
   omega
 have ad:But (some (a j).block) w' (w'.setCell (a j) u):=(But.refl _ _).own rfl u
 refine ⟨fun i hi=>?_,fun i hi=>?_,h.one,fun i k hi hk=>?_,fun i k b hi hk hik hv=>?_⟩
 ·by_cases e:i=j
  ·subst e
   simp only [if_true]
   exact ⟨Zq w' _ _ (aa i hi).1,by rw [Zo];exact (aa i hi).2⟩
  ·simp only [if_neg e]
   exact ⟨by rw [Zg w' _ _ _ (fun e2=>h.one i j hi hj e e2.symm)];exact (aa i hi).1,by rw [Zo];exact (aa i hi).2⟩
 ·by_cases e:i=j
  ·subst e
   simp only [if_true]
   exact World.ownsRow.kept ho ad (by
    cases hv:u.ownBlock with
    | none=>exact .inl rfl
    | some b=>exact .inr (fun e2=>af i hi (hv.trans e2)))
  ·simp only [if_neg e]
   exact World.ownsRow.kept (ae i hi e) ad (by
    cases hv:(v i).ownBlock with
    | none=>exact .inl rfl
    | some b=>exact .inr (fun e2=>h.off j i hj hi (hv.trans e2)))
 ·by_cases e:k=j
  ·subst e
   simp only [if_true]
   exact af i hi
  ·simp only [if_neg e]
   exact h.off i k hi hk
 ·have ac:∀m,J m->∀c,(v m).ownBlock=some c->c<w.heap.size:=fun m hm c hc=>((World.ownsRow.lt (h.row m hm)) c hc).2
  by_cases e1:i=j
  ·subst e1
   have e2:¬k=i:=fun e=>hik e.symm
   simp only [if_true,if_neg e2] at hv ⊢
   intro ab
   rcases hu with h1 | h1
   ·exact h.two i k b hi hk hik (h1.symm.trans hv) ab
   ·rw [h1] at hv
    have:=ac k hk b ab
    simp only [Option.some.injEq] at hv
    omega
  ·simp only [if_neg e1] at hv
   by_cases e2:k=j
   ·subst e2
    simp only [if_true]
    intro ab
    rcases hu with h1 | h1
    ·exact h.two i k b hi hk hik hv (h1.symm.trans ab)
    ·rw [h1] at ab
     have:=ac i hi b hv
     simp only [Option.some.injEq] at ab
     omega
   ·simp only [if_neg e2]
    exact h.two i k b hi hk hik hv
end
end Go.Proofs.YtbjgpbojjhldaaaGreatDoor
/- An append in a region that draws. -/
namespace Go.Proofs.YtbjgpbojjhldaaaGreatDoor
set_option maxRecDepth 100000
open Go.RowKit
section
variable {α:Type} {S:Shp α} {P:Program} {ops:Array Oper} {rest:List Oper} {o:Oper} {a:Act} {K:Act->World->Prop} {Q:Exit->Act->World->Prop} {E:Prop} {w wx:World}
theorem zaM (T e:TypeId) (z:Value) (bytes:Nat) {s x:Operand} {v:Value} {k m c:Nat} {A:Option Addr} {L xs:List α}
  (hgd:o.guard=none) (ho:o.op = .call { callee := .builtin .append,args:=#[s,x],argTypes:=#[T,T] })
  (ht:P.underlying T=some (.slice e)) (hinfo:(P.info? e).map (fun i=>(i.zero,i.size,i.bytes))=some (some z,S.size,bytes)) (hzs:z.cells.size=S.size) (hby:bytes<=1000)
  (hs:a.eval s=v) (hx:a.eval x = .slice A m c) (hown:OwnV S wx w.heap.size e v k L) (hext:Ext w wx) (hxs:Vec S wx A m xs) (hk:k+m<=1000000)
  (h:∀v' w1,OwnV S w1 w.heap.size e v' (k+m) (L++xs)->Hid (Ext w w1)->Hid (wx.grownBy w1 v.ownBlock/\(v'.ownBlock=v.ownBlock∨v'.ownBlock=some wx.heap.size))->K (a.put o.dst v') w1) :
  if Region.wanted o (yielded ops a.tmps)=true then Oper.wp P o a wx K Q else E:=by
 have hw:Region.wanted o (yielded ops a.tmps)=true:=by simp [Region.wanted,hgd]
 rw [if_pos hw]
 exact za7 (news:=xs.flatMap S.cells) T e z S.size bytes ho ht hinfo hzs S.pos hby hs hx hown hext (by rw [zaU,hxs.1])
  (fun hm=>by
   obtain ⟨b,off,hA,_,_⟩:=hxs.2 hm
   subst hA
   exact ⟨_,rfl,hxs.cells_at⟩) (fun u hu=>by obtain ⟨y,_,hy⟩:=ZI.1 hu;exact S.one y u hy) hk
  fun v' w' h2 h3 h4 h5=>h v' w' (by unfold OwnV;rw [ZO];exact h2) h3 ⟨h4,h5⟩
end

end Go.Proofs.YtbjgpbojjhldaaaGreatDoor
