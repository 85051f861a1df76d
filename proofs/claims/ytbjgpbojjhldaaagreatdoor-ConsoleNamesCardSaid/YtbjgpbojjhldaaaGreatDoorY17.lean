/- slices.Repeat of one stitch. -/
import Derived.Test.YtbjgpbojjhldaaaGreatDoorY16
namespace Go.Proofs.YtbjgpbojjhldaaaGreatDoor
set_option maxHeartbeats 16000000
set_option maxRecDepth 100000
open Go.RowKit Go.ChangeShapes Go.WideShapes Go.Joins
section
variable {P:Program} {ops:Array Oper} {rest:List Oper} {o:Oper} {a:Act} {K:Act->World->Prop} {Q:Exit->Act->World->Prop} {E:Prop} {w wx:World}
theorem zg7 (e:TypeId) (size:Nat) {d s:Operand} (dT sT:TypeId) {g n B k m dn dc sn sc:Nat} {ad:Addr} {A X Y:List Value} (cs:List Value) (ho:o.op = .call { callee := .builtin .copy,args:=#[d,s],argTypes:=#[dT,sT] })
  (hu:P.underlying dT=some (.slice e)) (hsz:(P.info? e).map (·.size)=some size) (hd:a.eval d = .slice (some ⟨g,k,none⟩) dn dc) (hs:a.eval s = .slice (some ad) sn sc)
  (hown:wx.ownsRow B e size (.slice (some ⟨g,0,none⟩) n n) n (A++X++Y)) (hk:A.length=k) (hm:m=sn.min dn) (hl:cs.length=m*size) (hX:X.length=cs.length) (hsrc:∀j u,cs[j]?=some u->wx.cell? (ad.add j)=some u) (h1:∀v∈cs,v.oneCell'=true)
  (h:∀w1,Hid (w1.ownsRow B e size (.slice (some ⟨g,0,none⟩) n n) n (A++cs++Y))->Hid (But (some g) wx w1)->K (a.put o.dst (goInt m)) w1):o.wp P a wx K Q:=by
 obtain ⟨aa,r1,r2⟩:=zhj (P:=P) dT sT o.type e size (dc:=dc) (sc:=sc) hu hsz hown hk hm hl hX hsrc h1
 unfold Oper.wp
 simp [execOp,ho,resolve,invoke,builtin,hd,hs,aa,Result.andThen]
 exact h _ (Za r1) (Za r2)
theorem za6 (e:TypeId) (size:Nat) {d s:Operand} (dT sT:TypeId) {g n B k m dn dc sn sc:Nat} {ad:Addr} {A X Y:List Value} (cs:List Value) (hgd:o.guard=none) (ho:o.op = .call { callee := .builtin .copy,args:=#[d,s],argTypes:=#[dT,sT] })
  (hu:P.underlying dT=some (.slice e)) (hsz:(P.info? e).map (·.size)=some size) (hd:a.eval d = .slice (some ⟨g,k,none⟩) dn dc) (hs:a.eval s = .slice (some ad) sn sc)
  (hown:wx.ownsRow B e size (.slice (some ⟨g,0,none⟩) n n) n (A++X++Y)) (hk:A.length=k) (hm:m=sn.min dn) (hl:cs.length=m*size) (hX:X.length=cs.length) (hsrc:∀j u,cs[j]?=some u->wx.cell? (ad.add j)=some u) (h1:∀v∈cs,v.oneCell'=true)
  (h:∀w1,Hid (w1.ownsRow B e size (.slice (some ⟨g,0,none⟩) n n) n (A++cs++Y))->Hid (But (some g) wx w1)->wpList P ops Q rest (a.put o.dst (goInt m)) w1):wpList P ops Q (o::rest) a wx :=
 wpList_plain hgd fun _ hK=>zg7 e size dT sT cs ho hu hsz hd hs hown hk hm hl hX hsrc h1 fun w' g1 g2=>hK _ _ (h w' g1 g2)
theorem zbv (ty e:TypeId) (size:Nat) (dT sT:TypeId) {g n B k m dn dc sn sc:Nat} {ad:Addr} {A X Y:List Value} (cs:List Value)
  (hu:P.underlying dT=some (.slice e)) (hsz:(P.info? e).map (·.size)=some size)
  (hown:wx.ownsRow B e size (.slice (some ⟨g,0,none⟩) n n) n (A++X++Y)) (hk:A.length=k) (hm:m=sn.min dn) (hl:cs.length=m*size) (hX:X.length=cs.length) (hsrc:∀j u,cs[j]?=some u->wx.cell? (ad.add j)=some u) (h1:∀v∈cs,v.oneCell'=true)
  (h:∀w1,Hid (w1.ownsRow B e size (.slice (some ⟨g,0,none⟩) n n) n (A++cs++Y))->Hid (But (some g) wx w1)->K (a.put o.dst (goInt m)) w1) :
  Oper.upon P o a K Q ((Sem.run P (Builtin.copy_ #[dT,sT] ty #[.slice (some ⟨g,k,none⟩) dn dc,.slice (some ad) sn sc]) wx).andThen fun a w'=>Result.ok (Next.value a) w'):=by
 obtain ⟨aa,r1,r2⟩:=zhj (P:=P) dT sT ty e size (dc:=dc) (sc:=sc) hu hsz hown hk hm hl hX hsrc h1
 rw [aa]
 exact h _ (Za r1) (Za r2)
theorem zb9 {T:Array TypeId} {ty:TypeId} {V:Array Value} {f:Value->World->Result Next} (h:Oper.upon P o a K Q ((Sem.run P (Builtin.copy_ T ty V) wx).andThen f)):Oper.upon P o a K Q ((Sem.run P (Builtin.copy_ T ty V) wx).andThen f):=h
end
theorem zoJ {α:Type} {L:List α} {m:Nat} (h:m<=L.length):∃X Y,L=X++Y/\X.length=m:=⟨L.take m,L.drop m,(Z0 m L).symm,by simp;omega⟩
theorem zbY (x:St) (k:Nat):((List.replicate k x).flatMap stc).length=k*4:=by
 rw [show ((List.replicate k x).flatMap stc).length=(List.replicate k x).length*4 from zaU (S:=shSt) _,ZH]
theorem zhW:(Tryz.prog.info? 92).map (·.size)=some 4:=by kernel_rfl
theorem zqc {w:World} {B N g k m:Nat} {e:TypeId} {Y:List Value} {x:St} (h:w.ownsRow B e 4 (.slice (some ⟨g,0,none⟩) N N) N ((List.replicate k x).flatMap stc++Y)) (hk:k<=N) (hm:m<=k) (j:Nat) (u:Value) (hu:((List.replicate m x).flatMap stc)[j]?=some u):w.cell? (Addr.add ⟨g,0,none⟩ j)=some u:=by
 have hj:j<m*4:=by
  have:=(ZB.1 hu).1
  rwa [zbY] at this
 have h1:=World.ownsRow.cellAt h j (by omega)
 obtain ⟨d,rfl⟩:∃d,k=m+d:=⟨k-m,by omega⟩
 rw [<-List.replicate_append_replicate,ZO,Zr,ZT (by rw [zbY];exact hj),hu] at h1
 rw [show Addr.add ⟨g,0,none⟩ j=⟨g,j,none⟩ by cases j <;> simp [Addr.add]]
 exact h1
theorem znv (x:St) (k m:Nat) (Y:List Value):(List.replicate k x).flatMap stc++(List.replicate m x).flatMap stc++Y=(List.replicate (k+m) x).flatMap stc++Y:=by
 rw [<-List.replicate_append_replicate,ZO]
theorem ziB {w1:World} {B N:Nat} {e:TypeId} {v:Value} {M:List Value} (hN:1<=N) (h:Hid (w1.ownsRow B e 4 v N M)):∃X Y:List Value,X.length=4/\Hid (w1.ownsRow B e 4 v N ([]++X++Y)):=by
 have hl:M.length=N*4:=h.out.1
 obtain ⟨X,Y,aa,hX⟩:=zoJ (m:=4) (L:=M) (by omega)
 subst aa
 exact ⟨X,Y,hX,Za h.out⟩
theorem ziN (x:St) (N:Nat) (hN1:1<=N) (hN2:N<=200) (w:World) (b off c:Nat) (hv:Vec shSt w (some ⟨b,off,none⟩) 1 [x]) :
  Calls Tryz.prog 148 #[.slice (some ⟨b,off,none⟩) 1 c,.int .i64 (N:Int)] w fun e w'=>∃v,e = .returned v/\OwnV shSt w' w.heap.size 92 v N (List.replicate N x)/\Ext w w':=by
 have HV:=Za (show ∀j u,(stc x)[j]?=some u->w.cell? (Addr.add ⟨b,off,none⟩ j)=some u from fun j u hu=>hv.cells_at j u (by rw [show [x].flatMap shSt.cells=stc x from ZF _];exact hu))
 have HM:=Za (show ∀w',Calls Tryz.prog 131 #[.int .u64 1,.int .u64 (N:Int)] w' fun e w''=>e = .returned (.tuple #[.int .u64 0,.int .u64 (N:Int)])/\w''=w' from fun w'=>by
  have h:=Tryz.bits_Mul 1 N (by omega) (by omega) w'
  rw [show 1*N / 18446744073709551616=0 by omega,show 1*N % 18446744073709551616=N by omega] at h
  exact h)
 have q1:(1:Int)<=(N:Int):=by omega
 have q2:(N:Int)<=200:=by omega
 clear hv
 go_enter Tryz.func148,Tryz.ntmps148
 go_wp2_with (first
  | (go_at_call 131;((with_reducible refine (HM.out _).mono ?_);rintro e w1 ⟨rfl,h9⟩;have h8:=h9.symm;clear h9;subst h8))
  | (at_make;(refine zav 43 92 (.agg #[.int .u8 0,.bool false,.int .i64 0,.int .i64 0]) 4 24 N w.heap.size (by rfl) (by rfl) Tryz.underlying43 zdt (by rfl) (by omega) (by omega) (Zb _) ?_;intro w1 ag ab ad);obtain ⟨X,Y,hX,ah⟩:=ziB hN1 ag;clear ag)
  | (refine za6 92 4 (k:=0) (m:=1) (A:=[]) 43 43 (stc x) (by rfl) (by rfl) Tryz.underlying43 zhW (by rfl) (by rfl) ah.out rfl (show 1=min 1 N by omega) rfl hX (fun j u hu=>(by have h3:=HV.out j u hu;exact (Zl ab.out (Zn w _ h3)).trans h3)) (fun u hu=>shSt.one x u hu) ?_;intro w2 ai ae))
 have am:=Za (show w2.ownsRow w.heap.size 92 4 (.slice (some ⟨w.heap.size,0,none⟩) N N) N ((List.replicate 1 x).flatMap stc++Y) from by
  have h9:=ai.out
  rw [show []++stc x++Y=(List.replicate 1 x).flatMap stc++Y by simp [List.flatMap]] at h9
  exact h9)
 have ak:=Za (show Ext w w2 from But.below (But.trans (But.of_ext ab.out _) ae.out) (Zb _) (fun k e=>by cases e;exact Zb _))
 clear ai ae ah hX X
 go_loopw [8] (fun i wr=>∃(k:Nat) (Y:List Value),i = .int .i64 k/\1<=k/\k<=N/\Hid (wr.ownsRow w.heap.size 92 4 (.slice (some ⟨w.heap.size,0,none⟩) N N) N ((List.replicate k x).flatMap stc++Y))/\Hid (Ext w wr)) (fun i _=>N-(intOf i).toNat)
 case atStart=>exact ⟨1,Y,rfl,Zb _,hN1,am,ak⟩
 case round =>
  obtain ⟨k,Y1,rfl,hk1,av,HO,HE⟩:=hrel
  have q3:(1:Int)<=(k:Int):=by omega
  have q4:(k:Int)<=(N:Int):=by omega
  by_cases hlt:k<N
  ·have q5:(k:Int)<(N:Int):=by omega
   have aa:((List.replicate k x).flatMap stc++Y1).length=N*4:=HO.out.1
   rw [Zc,zbY] at aa
   obtain ⟨X,Y2,au,hX⟩:=zoJ (m:=(min k (N-k))*4) (L:=Y1) (by omega)
   subst au
   have ac:=Za (show wr.ownsRow w.heap.size 92 4 (.slice (some ⟨w.heap.size,0,none⟩) N N) N ((List.replicate k x).flatMap stc++X++Y2) from by
    rw [Zr];exact HO.out)
   have HD:=Za (World.ownsRow.drew ac.out)
   have aq:=Za (show ∀j u,((List.replicate (min k (N-k)) x).flatMap stc)[j]?=some u->wr.drew.cell? (Addr.add ⟨w.heap.size,0,none⟩ j)=some u from fun j u hu=>zqc (World.ownsRow.drew HO.out) av (Nat.min_le_left _ _) j u hu)
   have ap:=Za (show ∀v∈(List.replicate (min k (N-k)) x).flatMap stc,v.oneCell'=true from fun u hu=>by obtain ⟨y,_,hy⟩:=ZI.1 hu;exact shSt.one y u hy)
   have ar:=Za (show X.length=((List.replicate (min k (N-k)) x).flatMap stc).length by rw [hX,zbY])
   clear aa hX HV HM ab ad
   go_wp2
   go_region_with ((with_reducible refine zb9 ?_);(refine zbv (wx:=wr.drew) 3 92 4 43 43 _ Tryz.underlying43 zhW HD.out (zbY x k) (show min k (N-k)=Nat.min k (N-k) from rfl) (zbY x _) ar.out aq.out ap.out ?_;intro w5 aj af))
   have al:=Za (show Ext w w5 from But.below (But.trans (But.of_ext (ZR HE.out) (some w.heap.size)) af.out) (Zb _) (fun k e=>by cases e;exact Zb _))
   have ao:=Za (show w5.ownsRow w.heap.size 92 4 (.slice (some ⟨w.heap.size,0,none⟩) N N) N ((List.replicate (k+min k (N-k)) x).flatMap stc++Y2) from by
    rw [<-znv]
    exact aj.out)
   clear aj af
   have hw:IntKind.i64.wrap ((k:Int)+((min k (N-k):Nat):Int))=((k+min k (N-k):Nat):Int):=by
    have e:=Zj ((k:Int)+((min k (N-k):Nat):Int)) ⟨by omega,by omega⟩
    rw [e]
    omega
   go_roundw
   case rel =>
    exact ⟨.int .i64 (IntKind.i64.wrap ((k:Int)+((min k (N-k):Nat):Int))),_,_,_,_,_,_,_,_,_,_,_,_,_,⟨k+min k (N-k),Y2,by rw [hw],by omega,by omega,ao,al⟩,rfl⟩
   case measure =>
    show N-(IntKind.i64.wrap ((k:Int)+((min k (N-k):Nat):Int))).toNat<N-((k:Nat):Int).toNat
    rw [hw]
    omega
  ·obtain rfl:k=N:=by omega
   have aa:((List.replicate k x).flatMap stc++Y1).length=k*4:=HO.out.1
   rw [Zc,zbY] at aa
   obtain rfl:Y1=[]:=Zz (by omega)
   have ac:=Za (show OwnV shSt wr w.heap.size 92 (.slice (some ⟨w.heap.size,0,none⟩) k k) k (List.replicate k x) from by
    have h9:=HO.out
    rw [ZF] at h9
    exact h9)
   go_wp2
   exact bodyPost_ret (v := .slice (some ⟨w.heap.size,0,none⟩) k k) (by simp [results,Tryz.f148,go_sem]) rfl ⟨_,rfl,ac.out,HE.out⟩
end Go.Proofs.YtbjgpbojjhldaaaGreatDoor
